/- A part; no conditions. -/
import Derived.Test.YtaogignikkjkjaaGreatVmHA
set_option maxRecDepth 1000000
set_option maxHeartbeats 1000000
set_option linter.all false
open Nat renaming beq->N9,le_refl->L9
open Bool renaming and_eq_true->B9
open Go renaming Value->V9,World->W9,Oper->X9
namespace Go.Vm
def aWf(o:X9)(v:V9)(e:Env):Env:=match o.dst with|some d=>(d,v)::e|none=>e
def aCu(sz:Nat)(o:X9):Bool:=match o.dst with|some d=>Nat.blt d sz|none=>true
theorem aJ3{ρ:Map}{e:Env}{a:Act}{sz:Nat}{o:X9}(hd:aCu sz o=true)(hs:a.tmps.size=sz)(he:fW ρ e a.tmps){v v':V9}(hv:dW ρ v v'):
  fW ρ (aWf o v e) (a.put o.dst v').tmps:=by
 unfold aWf aCu Act.put at *
 cases hq:o.dst with
 |none=>exact he
 |some d=>rw[hq]at hd;simp only[Nat.blt_eq]at hd;exact he.put (by omega) hv
theorem aAi(a:Act)(d:Option Tmp)(v:V9):(a.put d v).tmps.size=a.tmps.size:=by unfold Act.put;split<;>simp
theorem uG(a:Act)(d:Option Tmp)(v:V9):(a.put d v).defers=a.defers:=by unfold Act.put;split<;>rfl
def aQs(ops:Array X9)(o:X9)(e:Env):Option Bool:=
 match o.guard with
 |none=>some true
 |some (j,want)=>
  match(ops[j]?).bind (·.dst) with
  |some d=>
   match rZ d e with
   |some (.bool b)=>some (b==want)
   |some (.tuple _)=>some false
   |_=>none
  |none=>none
theorem oD{ops:Array X9}{o:X9}{e:Env}{b:Bool}(h:aQs ops o e=some b){ρ:Map}{a:Act}(he:fW ρ e a.tmps):
  Region.wanted o (yielded ops a.tmps)=b:=by
 unfold aQs at h;unfold Region.wanted;split at h;· rename_i hg;rw[hg];cases h;rfl
 ·rename_i j want hg;rw[hg];simp only;split at h
  ·rename_i d hd;split at h
   ·rename_i b' hb;obtain⟨v',h1,h2⟩:=he d _ hb;cases h2;cases h;unfold yielded;rw[hd];simp[h1]
   ·rename_i as hb;obtain⟨v',h1,h2⟩:=he d _ hb;cases h;unfold yielded;rw[hd];cases h2;simp[h1]
   ·cases h
  ·cases h
def aIs{R:Type}(C:Cx)(cal:Cal R)(lo sz:Nat)(ops:Array X9):List X9->Env->AH->(Env->AH->Option R)->Option R
 |[],e,H,k=>k e H
 |o::rest,e,H,k=>
  bif aCu sz o then
   (aQs ops o e).bind λb=>
    bif b then aXt C cal lo e H o λv H'=>aIs C cal lo sz ops rest (aWf o v e) H' k
    else aIs C cal lo sz ops rest (aWf o undef e) H k
  else none
theorem yI{R:Type}{C:Cx}{cal:Cal R}(hC:C.Ok)(hcal:aGd C.P cal){lo sz:Nat}{ops:Array X9}:∀{rest:List X9}{e:Env}{H:AH}{k:Env->AH->Option R}{r:R},
  aIs C cal lo sz ops rest e H k=some r->∃e' H',k e' H'=some r/\∀{ρ:Map}{w:W9}{a:Act},Inv ρ H w->lo<=H.next->fW ρ e a.tmps->a.tmps.size=sz->
   ∀Q:Exit->Act->W9->Prop,(∀ρ' a' w',Next lo ρ H w ρ' H' w'->fW ρ' e' a'.tmps->a'.tmps.size=sz->a'.defers=a.defers->Q .normal a' w')->wpList C.P ops Q rest a w
 |[],e,H,k,r,h=>⟨e,H,h,λ{ρ w a} hi hlo he hs Q hQ=>hQ ρ a w (Next.refl hi) he hs rfl⟩
 |o::rest,e,H,k,r,h=>by
  unfold aIs at h;cases hd:aCu sz o with
  |false=>rw[hd]at h;cases h
  |true=>
   rw[hd]at h;simp only[T7]at h;obtain⟨b,h1,h⟩:=aB h;cases b with
   |true=>
    simp only[T7]at h;obtain⟨v,H1,g1,g2⟩:=uW hC hcal h;obtain⟨e',H',k1,k2⟩:=yI hC hcal (rest:=rest) g1;refine⟨e',H',k1,λ{ρ w a} hi hlo he hs Q hQ=>?_⟩;unfold wpList;rw[if_pos (oD h1 he)];refine .inl (g2 hi hlo he _ Q λρ2 w2 v2 m1 m2=>?_);exact k2 m1.inv (Nat.le_trans hlo m1.nx) (aJ3 hd hs (he.mono (m1.ext hi)) m2) (by rw[aAi];exact hs) Q λρ' a' w' q1 q2 q3 q4=>
     hQ ρ' a' w' (m1.trans q1) q2 q3 (by rw[q4,uG])
   |false=>simp only[F7]at h;obtain⟨e',H',k1,k2⟩:=yI hC hcal (rest:=rest) h;refine⟨e',H',k1,λ{ρ w a} hi hlo he hs Q hQ=>?_⟩;unfold wpList;rw[if_neg (by rw[oD h1 he];exact Bool.false_ne_true)];exact k2 hi hlo (aJ3 hd hs he (.tuple .nil)) (by rw[aAi];exact hs) Q λρ' a' w' q1 q2 q3 q4=>hQ ρ' a' w' q1 q2 q3 (by rw[q4,uG])
def jS(ops:Array X9)(o:X9):List Tmp:=
 (o.op.operands.toList.filterMap λ| .tmp t=>some t|_=>none)++
 (match o.guard with
  |some (g,_)=>((ops[g]?).bind (·.dst)).toList
  |none=>[])
def lB(e:Env):List Tmp->Env
 |[]=>[]
 |t::r=>match rZ t e with|some v=>(t,v)::lB e r|none=>lB e r
theorem aBf{e:Env}{t:Tmp}{v:V9}:∀{l:List Tmp},rZ t (lB e l)=some v->t∈l/\rZ t e=some v
 |[],h=>by simp[lB,rZ]at h
 |s::r,h=>by
  unfold lB at h;split at h
  ·rename_i u hu;unfold rZ at h;cases hb:N9 s t with
   |true=>have:=gO hb;subst this;rw[hb]at h;cases h;exact⟨by simp,hu⟩
   |false=>rw[hb]at h;have:=aBf (l:=r) h;exact⟨by simp[this.1],this.2⟩
  ·have:=aBf (l:=r) h;exact⟨by simp[this.1],this.2⟩
def isW(o:X9):Bool:=
 match o.op with
 |.move _ | .assign _ | .pick .. | .nilCheck _ | .binOp .. | .unOp .. | .convert .. | .makeInterface .. | .makeFunc .. | .slice .. | .fieldAddr .. | .field ..
 |.indexAddr .. | .index .. | .typeAssert .. | .extract .. | .build ..=>true
 |.call { callee:=.builtin b,.. }=>match b with | .real | .imag | .complex | .len | .min | .max=>true|_=>false
 |_=>false
def bE7:List Operand->Bool
 |.const (.slice none _ _)::_=>false
 |_=>true
def isM(o:X9):Bool:=
 match o.op with
 |.store .. | .mapUpdate .. | .insert .. | .entryStore ..=>true
 |.call { callee:=.builtin b,args:=xs,argTypes:=_ }=>match b with | .real | .imag | .complex | .len | .min | .max=>false | .append=>bE7 xs.toList|_=>true
 |_=>false
def aSl(acc:List Nat)(o:X9):Nat:=o.after.toList.foldl (λm e=>bif Region.binds .any e then(m |||2^e.on) |||acc.getD e.on 0 else m) 0
def aSm:List X9->List Nat->List Nat
 |[],acc=>acc
 |o::r,acc=>aSm r (acc++[aSl acc o])
def aAe(ops:Array X9):List Nat:=aSm ops.toList []
theorem aRt{acc:List Nat}{j:Nat}:∀{l:List Edge}{m:Nat},Nat.testBit (l.foldl (λm e=>bif Region.binds .any e then(m |||2^e.on) |||acc.getD e.on 0 else m) m) j=true->
  Nat.testBit m j=true\/∃e∈l,Region.binds .any e=true/\(e.on=j\/Nat.testBit (acc.getD e.on 0) j=true)
 |[],m,h=>.inl h
 |e::l,m,h=>by
  rw[List.foldl_cons]at h;rcases aRt h with g|⟨e',h1,h2,h3⟩
  ·cases hb:Region.binds .any e with
   |false=>rw[hb]at g;exact .inl g
   |true=>
    rw[hb]at g;simp only[T7,Nat.testBit_or,Bool.or_eq_true]at g;rcases g with (g|g)|g;· exact .inl g
    ·refine .inr ⟨e,by simp,hb,.inl ?_⟩;rw[Nat.testBit_two_pow]at g;simpa using g
    ·exact .inr ⟨e,by simp,hb,.inr g⟩
  ·exact .inr ⟨e',by simp[h1],h2,h3⟩
theorem aEw{ops:Array X9}{S:Nat->Prop}(hc:∀(i:Nat) o,ops[i]?=some o->S i->∀e∈o.after.toList,Region.binds .any e=true->S e.on):
  ∀(l:List X9)(acc:List Nat),(∀(i:Nat) o,i<acc.length->ops[i]?=some o->(∀e∈o.after.toList,Region.binds .any e=true->S e.on)->∀j,Nat.testBit (acc.getD i 0) j=true->S j)->
   (∀p:Nat,l[p]?=ops[acc.length+p]?)->∀(i:Nat) o,ops[i]?=some o->(∀e∈o.after.toList,Region.binds .any e=true->S e.on)->∀j,Nat.testBit ((aSm l acc).getD i 0) j=true->S j
 |[],acc,h1,h2,i,o,ho=>by
  refine h1 i o ?_ ho;rcases Nat.lt_or_ge i acc.length with h|h;· exact h
  ·have:=h2 (i-acc.length);rw[show acc.length+(i-acc.length)=i by omega,ho]at this;simp at this
 |q::l,acc,h1,h2,i,o,ho=>by
  unfold aSm;have hq:ops[acc.length]?=some q:=by have:=h2 0;simpa using this.symm
  refine aEw hc l (acc++[aSl acc q]) (λi o hi ho hs j hj=>?_) (λp=>?_) i o ho
  ·simp only[List.length_append,List.length_cons,List.length_nil]at hi;rcases Nat.lt_or_ge i acc.length with h|h
   ·refine h1 i o h ho hs j ?_;rw[List.getD_eq_getElem?_getD,List.getElem?_append_left h,<-List.getD_eq_getElem?_getD]at hj;exact hj
   ·have hi':i=acc.length:=by omega
    subst hi';rw[hq]at ho;cases ho;have e1:(acc++[aSl acc q]).getD acc.length 0=aSl acc q:=by rw[List.getD_eq_getElem?_getD,List.getElem?_append_right (L9 _)];simp
    rw[e1]at hj;rcases aRt hj with g|⟨e,he,hb,g⟩;· simp at g
    ·rcases g with rfl|g
     ·exact hs e he hb
     ·rcases Nat.lt_or_ge e.on acc.length with h' | h'
      ·cases ho':ops[e.on]? with
       |none=>have:acc.length<ops.size:=(Array.getElem?_eq_some_iff.1 hq).1;have:=Array.getElem?_eq_none_iff.1 ho';omega
       |some o'=>exact h1 e.on o' h' ho' (hc e.on o' ho' (hs e he hb)) j g
      ·rw[List.getD_eq_getElem?_getD,List.getElem?_eq_none h']at g;simp at g
  ·have:=h2 (p+1);simp only[List.getElem?_cons_succ]at this;rw[this];congr 1;simp only[List.length_append,List.length_cons,List.length_nil];omega
theorem aVi{ops:Array X9}{S:Nat->Prop}(hc:∀(i:Nat) o,ops[i]?=some o->S i->∀e∈o.after.toList,Region.binds .any e=true->S e.on){i:Nat}{o:X9}(ho:ops[i]?=some o)(hs:∀e∈o.after.toList,Region.binds .any e=true->S e.on){j:Nat}(hj:Nat.testBit ((aAe ops).getD i 0) j=true):S j:=
 aEw hc ops.toList [] (λi o hi=>by simp at hi) (λp=>by simp) i o ho hs j hj
def aAh(ops:Array X9)(i:Nat)(oi:X9)(oj:X9)(mj:Nat):Bool:=
 (match oi.dst with
  |some d=>(match oj.dst with|some d'=>!N9 d d' | none=>true)&&(!(jS ops oj).any (N9 d)||Nat.testBit mj i)
  |none=>true) &&
 (match oj.dst with
  |some d=>!(jS ops oi).any (N9 d)||Nat.testBit mj i
  |none=>true)
def aJy(ops:Array X9)(ms:List Nat):List (X9×Nat)->Bool
 |[]=>true
 |(o,i)::r=>(o.after.toList.all λe=>!Region.binds .any e||Nat.blt e.on i)&&(r.all λ(oj,j)=>aAh ops i o oj (ms.getD j 0))&&aJy ops ms r
def aLu(ops:Array X9):Bool:=aJy ops (aAe ops) ops.toList.zipIdx
def bPl(n0:Nat)(own:List (Nat×Nat×Nat))(m k:Nat):Bool:=Nat.blt k n0||own.any λx=>Nat.ble x.1 k&&Nat.blt k x.2.1&&Nat.testBit m x.2.2
def sZ:List V9->List Nat
 |[]=>[]
 |.pointer (some ad)::r=>ad.block::sZ r
 |.slice (some ad) _ _::r=>ad.block::sZ r
 |.map (some b)::r=>b::sZ r
 |_::r=>sZ r
def aP9(e:Env)(o:X9):Option (List Nat):=
 match o.op with
 |.load _ x=>match opd e x with|some v=>some (sZ [v])|none=>some []
 |.store _ x _=>match opd e x with|some v=>some (sZ [v])|none=>some []
 |.alloc _ | .box .. | .buildSlice .. | .makeSlice .. | .makeMap ..=>some []
 |.call { callee:=.builtin _,args:=xs,argTypes:=_ }=>match aS5 e xs.toList with|some vs=>some (sZ vs)|none=>some []
 |.mapUpdate _ x _ _ | .insert _ x _ _ | .lookup _ x _ _=>match opd e x with|some v=>some (sZ [v])|none=>some []
 |_=>none
def aCs(e:Env)(o:X9):List Nat:=bif isM o then(match aP9 e o with|some l=>l|none=>[]) else[]
def bFz(s:Option (List Nat))(k:Nat):Bool:=match s with|none=>true|some l=>l.any (N9 k)
def aWv(s:Option (List Nat))(t:List Nat):Bool:=t.all λk=>!bFz s k
abbrev Log:=List (Nat×Option (List Nat)×List Nat)
def bMq(log:Log)(m:Nat)(s:Option (List Nat))(t:List Nat):Bool:=log.all λx=>Nat.testBit m x.1||(aWv s x.2.2&&aWv x.2.1 t)
def aB8{R:Type}(C:Cx)(cal:Cal R)(lo sz:Nat)(ops:Array X9)(ms:List Nat)(n0:Nat):Nat->List (Nat×Nat×Nat)->Log->List X9->Env->AH->(Env->AH->Option R)->Option R
 |_,_,_,[],e,H,k=>k e H
 |i,own,log,o::rest,e,H,k=>
  bif aCu sz o then
   (aQs ops o (lB e (jS ops o))).bind λb=>
    bif b then
     bif isW o then aXt C cal H.next (lB e (jS ops o)) ⟨H.next,[]⟩ o λv H'=>
      bif N9 H'.next H.next then aB8 C cal lo sz ops ms n0 (i+1) own log rest (aWf o v e) H k else none
     else
      bif bMq log (ms.getD i 0) (aP9 (lB e (jS ops o)) o) (aCs (lB e (jS ops o)) o)&&((aCs (lB e (jS ops o)) o).all λk=>bPl n0 own (ms.getD i 0) k&&Nat.blt k H.next) &&
        (!isM o||(aP9 (lB e (jS ops o)) o).isSome) then
       aXt C cal (bif isM o then lo else H.next) (lB e (jS ops o)) ⟨H.next,H.objs.filter λx=>bFz (aP9 (lB e (jS ops o)) o) x.1&&bPl n0 own (ms.getD i 0) x.1⟩ o λv H'=>
        bif Nat.ble H.next H'.next then
         aB8 C cal lo sz ops ms n0 (i+1) ((H.next,H'.next,i)::own) ((i,aP9 (lB e (jS ops o)) o,aCs (lB e (jS ops o)) o)::log) rest (aWf o v e)
          ⟨H'.next,(H'.objs.filter λx=>(Nat.ble H.next x.1&&Nat.blt x.1 H'.next)||(aCs (lB e (jS ops o)) o).any (N9 x.1))++
           (H.objs.filter λx=>!((aCs (lB e (jS ops o)) o).any (N9 x.1))&&Nat.blt x.1 H.next)⟩ k
        else none
      else none
    else aB8 C cal lo sz ops ms n0 (i+1) own log rest (aWf o undef e) H k
  else none
def aV9(s:Option (List Nat))(k:Nat):Prop:=bFz s k=true
def aQ0(C:Cx)(lo:Nat)(ops:Array X9)(m:Nat)(heaps:Nat->AH)(seen:Nat->Option (List Nat))(tch:Nat->List Nat)(i:Nat)(o:X9)(er:Env)(v:V9):Prop:=
 (aQs ops o er=some false/\v=undef/\heaps (i+1)=heaps i/\seen i=some []/\tch i=[])\/
 (aQs ops o er=some true/\isW o=true/\heaps (i+1)=heaps i/\seen i=some []/\tch i=[]/\∃H2:AH,H2.next=(heaps i).next/\
  ∀{ρ:Map}{w:W9}{a:Act},Inv ρ ⟨(heaps i).next,[]⟩ w->fW ρ er a.tmps->bCw C.P (heaps i).next o a ρ ⟨(heaps i).next,[]⟩ w v H2)\/
 (aQs ops o er=some true/\isW o=false/\∃(V:dF)(H2:AH)(lo':Nat)(vis:Nat->Prop),
  (∀k,vis k->k<(heaps 0).next\/∃t,t<i/\Nat.testBit m t=true/\(heaps t).next<=k/\k<(heaps (t+1)).next)/\
  (∀x,x∈V↔x∈(heaps i).objs/\aV9 (seen i) x.1/\vis x.1)/\
  ((lo'=lo/\seen i=some (tch i))\/(lo'=(heaps i).next/\tch i=[]))/\
  (∀k∈tch i,aV9 (seen i) k/\k<(heaps i).next/\vis k)/\
  (∀t,t<i->Nat.testBit m t=false->(∀k∈tch t,¬aV9 (seen i) k)/\(∀k∈tch i,¬aV9 (seen t) k))/\
  (heaps i).next<=H2.next/\(heaps (i+1)).next=H2.next/\
  (∀x,x∈(heaps (i+1)).objs↔(x∈H2.objs/\(((heaps i).next<=x.1/\x.1<H2.next)\/x.1∈tch i))\/(x∈(heaps i).objs/\x.1∉tch i/\x.1<(heaps i).next))/\
  ∀{ρ:Map}{w:W9}{a:Act},Inv ρ ⟨(heaps i).next,V⟩ w->lo<=(heaps i).next->fW ρ er a.tmps->bCw C.P lo' o a ρ ⟨(heaps i).next,V⟩ w v H2)
theorem aDs{l:List Nat}{k:Nat}:l.any (N9 k)=true↔k∈l:=by
 rw[List.any_eq_true];constructor
 ·rintro ⟨x,h1,h2⟩
  rw[gO h2];exact h1
 ·intro h;exact⟨k,h,by simp⟩
theorem aB9{R:Type}{C:Cx}{cal:Cal R}(hC:C.Ok)(hcal:aGd C.P cal){lo sz:Nat}{ops:Array X9}{ms:List Nat}{n0:Nat}:∀{rest:List X9}{i:Nat}{own:List (Nat×Nat×Nat)}{log:Log}{e:Env}{H:AH}{k:Env->AH->Option R}{r:R}{hp:Nat->AH}{sp:Nat->Option (List Nat)}{tp:Nat->List Nat},
  aB8 C cal lo sz ops ms n0 i own log rest e H k=some r->hp i=H->(hp 0).next=n0->(∀x∈own,x.2.2<i/\x.1=(hp x.2.2).next/\x.2.1=(hp (x.2.2+1)).next)->
  (∀t,t<i->(t,sp t,tp t)∈log\/(sp t=some []/\tp t=[]))->
  ∃(vals:Nat->V9)(heaps:Nat->AH)(envs:Nat->Env)(seen:Nat->Option (List Nat))(tch:Nat->List Nat),(∀t,t<=i->heaps t=hp t)/\(∀t,t<i->seen t=sp t/\tch t=tp t)/\envs i=e/\k (envs (i+rest.length)) (heaps (i+rest.length))=some r/\
   ∀(j:Nat) o,rest[j]?=some o->aCu sz o=true/\aQ0 C lo ops (ms.getD (i+j) 0) heaps seen tch (i+j) o (lB (envs (i+j)) (jS ops o)) (vals (i+j))/\envs (i+j+1)=aWf o (vals (i+j)) (envs (i+j))
 |[],i,own,log,e,H,k,r,hp,sp,tp,h,hH,h0,hown,hlog=>⟨λ_=>undef,hp,λ_=>e,sp,tp,λ_ _=>rfl,λ_ _=>⟨rfl,rfl⟩,rfl,by subst hH;exact h,λj o hj=>by simp at hj⟩
 |o::rest,i,own,log,e,H,k,r,hp,sp,tp,h,hH,h0,hown,hlog=>by
  unfold aB8 at h;have fin:∀(v:V9)(H1:AH)(own':List (Nat×Nat×Nat))(log':Log)(s:Option (List Nat))(t:List Nat),aCu sz o=true->
    (∀(heaps:Nat->AH)(seen:Nat->Option (List Nat))(tch:Nat->List Nat),(∀t,t<=i->heaps t=hp t)->heaps (i+1)=H1->(∀t,t<i->seen t=sp t/\tch t=tp t)->seen i=s->tch i=t->
     aQ0 C lo ops (ms.getD i 0) heaps seen tch i o (lB e (jS ops o)) v)->
    (∀x∈own',x∈own\/x=(H.next,H1.next,i))->(∀x∈log,x∈log')->((i,s,t)∈log'\/(s=some []/\t=[]))->
    aB8 C cal lo sz ops ms n0 (i+1) own' log' rest (aWf o v e) H1 k=some r->
    ∃(vals:Nat->V9)(heaps:Nat->AH)(envs:Nat->Env)(seen:Nat->Option (List Nat))(tch:Nat->List Nat),(∀t,t<=i->heaps t=hp t)/\(∀t,t<i->seen t=sp t/\tch t=tp t)/\envs i=e/\k (envs (i+(o::rest).length)) (heaps (i+(o::rest).length))=some r/\
     ∀(j:Nat) o',(o::rest)[j]?=some o'->aCu sz o'=true/\aQ0 C lo ops (ms.getD (i+j) 0) heaps seen tch (i+j) o' (lB (envs (i+j)) (jS ops o')) (vals (i+j))/\envs (i+j+1)=aWf o' (vals (i+j)) (envs (i+j)):=by
   intro v H1 own' log' s t hd hs ho hl1 hl2 hr;obtain⟨vals,heaps,envs,seen,tch,h1,hst,h2,h3,h4⟩:=aB9 hC hcal (rest:=rest) (hp:=λt=>if t<=i then hp t else H1) (sp:=λu=>if u<i then sp u else s) (tp:=λu=>if u<i then tp u else t) hr (if_neg (show ¬(i+1<=i) by omega)) (by simpa using h0) (λx hx=>by
    rcases ho x hx with g|rfl
    ·obtain⟨g1,g2,g3⟩:=hown x g;refine⟨by omega,?_,?_⟩
     ·rw[if_pos (by omega)];exact g2
     ·rw[if_pos (by omega)];exact g3
    ·refine⟨by simp,?_,?_⟩
     ·simp[hH]
     ·simp only;rw[if_neg (show ¬(i+1<=i) by omega)]) (λu hu=>by
    by_cases g:u<i
    ·simp only[g,if_true];rcases hlog u g with q|q
     ·exact .inl (hl1 _ q)
     ·exact .inr q
    ·have:u=i:=by omega
     subst this;simp only[g,if_false];exact hl2)
   have hh:∀t,t<=i->heaps t=hp t:=λt ht=>by rw[h1 t (by omega),if_pos ht]
   have hh1:heaps (i+1)=H1:=by rw[h1 (i+1) (L9 _)];exact if_neg (show ¬(i+1<=i) by omega)
   have hq:∀u,u<i->seen u=sp u/\tch u=tp u:=λu hu=>by have:=hst u (by omega);simp only[hu,if_true]at this;exact this
   have hqi:seen i=s/\tch i=t:=by have:=hst i (by omega);simpa using this
   refine⟨λt=>if t=i then v else vals t,heaps,λt=>if t=i then e else envs t,seen,tch,hh,hq,by simp,?_,λj o' hj=>?_⟩
   ·have e1:i+(o::rest).length=i+1+rest.length:=by simp only[List.length_cons];omega
    simp only[e1];rw[if_neg (by omega)];exact h3
   ·cases j with
    |zero=>
     simp only[List.getElem?_cons_zero,Option.some.injEq]at hj;subst hj;refine⟨hd,?_,?_⟩;· simpa using hs heaps seen tch hh hh1 hq hqi.1 hqi.2
     ·simp[h2]
    |succ j=>have:=h4 j o' (by simpa using hj);rw[show i+1+j=i+(j+1) by omega]at this;simp only[show ¬(i+(j+1)=i) by omega,show ¬(i+(j+1)+1=i) by omega,if_false];exact this
  cases hd:aCu sz o with
  |false=>rw[hd]at h;cases h
  |true=>
   rw[hd]at h;simp only[T7]at h;obtain⟨b,h1,h⟩:=aB h;cases b with
   |false=>simp only[F7]at h;refine fin undef H own log (some []) [] hd (λheaps seen tch g1 g2 _ g4 g5=>.inl ⟨h1,rfl,?_,g4,g5⟩) (λx hx=>.inl hx) (λx hx=>hx) (.inr ⟨rfl,rfl⟩) h;rw[g2,g1 i (L9 _),hH]
   |true=>
    simp only[T7]at h;cases hw:isW o with
    |true=>
     rw[hw]at h;simp only[T7]at h;obtain⟨v,H2,g1,g2⟩:=uW hC hcal h;cases hn:N9 H2.next H.next with
     |false=>rw[hn]at g1;cases g1
     |true=>
      rw[hn]at g1;have hn':=gO hn;refine fin v H own log (some []) [] hd (λheaps seen tch k1 k2 _ k4 k5=>.inr (.inl ⟨h1,hw,?_,k4,k5,H2,?_,?_⟩)) (λx hx=>.inl hx) (λx hx=>hx) (.inr ⟨rfl,rfl⟩) g1;· rw[k2,k1 i (L9 _),hH]
      ·rw[k1 i (L9 _),hH];exact hn'
      ·rw[k1 i (L9 _),hH];exact λ{ρ w a} hi' he=>g2 hi' (L9 _) he
    |false=>
     rw[hw]at h;simp only[F7]at h;generalize hs:aP9 (lB e (jS ops o)) o=s at h;generalize ht:aCs (lB e (jS ops o)) o=t at h;cases hc:(bMq log (ms.getD i 0) s t&&(t.all λk=>bPl n0 own (ms.getD i 0) k&&Nat.blt k H.next)&&(!isM o||s.isSome)) with
     |false=>rw[hc]at h;cases h
     |true=>
      rw[hc]at h;simp only[T7]at h;simp only[B9,List.all_eq_true,Nat.blt_eq]at hc;obtain⟨⟨hc1,hc2⟩,hc3⟩:=hc;obtain⟨v,H2,g1,g2⟩:=uW hC hcal h;cases hn:Nat.ble H.next H2.next with
      |false=>rw[hn]at g1;cases g1
      |true=>
       rw[hn]at g1;simp only[T7]at g1;have hn':=kK hn;refine fin v _ _ _ s t hd (λheaps seen tch k1 k2 k3 k4 k5=>?_) (λx hx=>by simpa[or_comm] using hx) (λx hx=>by simp[hx]) (.inl (by simp)) g1;have hi:heaps i=H:=by rw[k1 i (L9 _),hH]
       have h00:(heaps 0).next=n0:=by rw[k1 0 (Nat.zero_le _),h0]
       have vis:∀k,bPl n0 own (ms.getD i 0) k=true->(k<(heaps 0).next\/∃t,t<i/\Nat.testBit (ms.getD i 0) t=true/\(heaps t).next<=k/\k<(heaps (t+1)).next):=λk hk=>by
        unfold bPl at hk;rw[Bool.or_eq_true]at hk;rcases hk with g|g;· rw[h00];exact .inl (by simpa using g)
        ·obtain⟨y,y1,y2⟩:=List.any_eq_true.1 g;simp only[B9]at y2;obtain⟨r1,r2,r3⟩:=hown y y1;refine .inr ⟨y.2.2,r1,y2.2,?_,?_⟩
         ·rw[k1 _ (by omega),<-r2];exact kK y2.1.1
         ·rw[k1 _ (by omega),<-r3];simpa using y2.1.2
       have hts:isM o=true->s=some t:=λhm=>by
        subst hs;subst ht;unfold aCs;rw[hm]at hc3⊢;simp only[Bool.not_true,Bool.false_or,T7]at hc3⊢;cases hq:aP9 (lB e (jS ops o)) o with
        |none=>rw[hq]at hc3;cases hc3
        |some l=>rfl
       have htn:isM o=false->t=[]:=λhm=>by subst ht;unfold aCs;rw[hm];rfl
       refine .inr (.inr ⟨h1,hw,H.objs.filter λx=>bFz s x.1&&bPl n0 own (ms.getD i 0) x.1,H2,bif isM o then lo else H.next,λk=>bPl n0 own (ms.getD i 0) k=true,vis,λx=>?_,?_,?_,?_,?_,?_,?_,?_⟩);· rw[hi,k4,List.mem_filter];simp only[B9,aV9]
       ·cases hm:isM o with
        |true=>exact .inl ⟨rfl,by rw[k4,k5];exact hts hm⟩
        |false=>exact .inr ⟨by rw[hi];rfl,by rw[k5];exact htn hm⟩
       ·intro k hk;rw[k5]at hk;obtain⟨q1,q2⟩:=hc2 k hk;refine⟨?_,by rw[hi];exact q2,q1⟩;rw[k4];have hm:isM o=true:=by
         cases hm:isM o with
         |true=>rfl
         |false=>rw[htn hm]at hk;simp at hk
        rw[hts hm];exact aDs.2 hk
       ·intro u hu hbit;obtain⟨q1,q2⟩:=k3 u hu;rcases hlog u hu with g|⟨g1,g2⟩
        ·unfold bMq at hc1;have:=List.all_eq_true.1 hc1 _ g;simp only[hbit,Bool.false_or,B9,aWv,List.all_eq_true,Bool.not_eq_true']at this;rw[q1,q2,k4,k5];exact⟨λk hk hq=>(by have:=this.1 k hk;unfold aV9 at hq;rw[this]at hq;cases hq),λk hk hq=>(by have:=this.2 k hk;unfold aV9 at hq;rw[this]at hq;cases hq)⟩
        ·rw[q1,q2,g1,g2];exact⟨λk hk=>by simp at hk,λk hk hq=>by simp[aV9,bFz]at hq⟩
       ·rw[hi];exact hn'
       ·rw[k2]
       ·intro x;rw[k2,hi,k5];simp only[List.mem_append,List.mem_filter,Bool.or_eq_true,B9,Nat.ble_eq,Nat.blt_eq,Bool.not_eq_true',aDs];constructor
        ·rintro (⟨q1,q2|q2⟩|⟨q1,q2,q3⟩)
         ·exact .inl ⟨q1,.inl q2⟩
         ·exact .inl ⟨q1,.inr q2⟩
         ·exact .inr ⟨q1,λg=>(by rw[aDs.2 g]at q2;cases q2),q3⟩
        ·rintro (⟨q1,q2|q2⟩|⟨q1,q2,q3⟩)
         ·exact .inl ⟨q1,.inl q2⟩
         ·exact .inl ⟨q1,.inr q2⟩
         ·refine .inr ⟨q1,?_,q3⟩;cases hq:t.any (N9 x.1) with
          |false=>rfl
          |true=>exact absurd (aDs.1 hq) q2
       ·rw[hi];intro ρ w a hi' hlo he;refine g2 hi' ?_ he;cases hm:isM o with
        |true=>exact hlo
        |false=>exact L9 _
end Go.Vm
