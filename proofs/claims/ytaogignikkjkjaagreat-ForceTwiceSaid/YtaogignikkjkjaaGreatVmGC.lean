/- A part; no conditions. -/
import Derived.Test.YtaogignikkjkjaaGreatVmL
set_option maxRecDepth 1000000
set_option maxHeartbeats 1000000
set_option linter.all false
open Nat renaming beq->N9,le_refl->L9
open Go renaming Value->V9,Program->Q9,World->W9,TypeId->I9,Oper->X9,Operand->Y9,Code->H9
namespace Go.Vm
mutual
def aMh:V9->Nat->Nat
 |.pointer (some a),m=>Nat.lor m (Nat.shiftLeft 1 (Nat.mod a.block 61))
 |.slice (some a) _ _,m=>Nat.lor m (Nat.shiftLeft 1 (Nat.mod a.block 61))
 |.map (some k),m=>Nat.lor m (Nat.shiftLeft 1 (Nat.mod k 61))
 |.func _ as bs,m=>bEx as (bEx bs m)
 |.iface _ v,m=>aMh v m
 |.agg as,m=>bEx as m
 |.tuple as,m=>bEx as m
 |_,m=>m
def bEx:Array V9->Nat->Nat
 |⟨l⟩,m=>bMt l m
def bMt:List V9->Nat->Nat
 |[],m=>m
 |v::r,m=>bMt r (aMh v m)
end
def tb(m n:Nat):Bool:=N9 (Nat.land (Nat.shiftRight m n) 1) 1
def aBy(t s0 s1 s2:Nat):Bool:=bif Nat.blt t 60 then tb s0 t else bif Nat.blt t 120 then tb s1 (Nat.sub t 60) else bif Nat.blt t 180 then tb s2 (Nat.sub t 120) else false
def aNg{R:Type}:Env->Nat->Nat->Nat->Nat->(Env->Nat->R)->R
 |[],_,_,_,m,k=>k [] m
 |(t,v)::r,s0,s1,s2,m,k=>bif aBy t s0 s1 s2 then aNg r s0 s1 s2 m k else bH (aMh v m) λm=>
  bif Nat.blt t 60 then bH (Nat.lor s0 (Nat.shiftLeft 1 t)) λs0=>aNg r s0 s1 s2 m λe m=>k ((t,v)::e) m
  else bif Nat.blt t 120 then bH (Nat.lor s1 (Nat.shiftLeft 1 (Nat.sub t 60))) λs1=>aNg r s0 s1 s2 m λe m=>k ((t,v)::e) m
  else bif Nat.blt t 180 then bH (Nat.lor s2 (Nat.shiftLeft 1 (Nat.sub t 120))) λs2=>aNg r s0 s1 s2 m λe m=>k ((t,v)::e) m
  else aNg r s0 s1 s2 m λe m=>k ((t,v)::e) m
def bTu:List (Int×V9)->Nat->Nat
 |[],m=>m
 |(_,v)::r,m=>bTu r (aMh v m)
def yP{R:Type}:dF->Nat->(Nat->R)->R
 |[],m,k=>k m
 |(j,o)::r,m,k=>
  bif tb m (Nat.mod j 61) then
   match o with
   |.cells cs _=>(match cs.drop 24 with | []=>bH (bMt cs m) λm=>yP r m k|_=>yP r m k)
   |.map _ es=>bH (bTu es m) λm=>yP r m k
  else yP r m k
def aAw{R:Type}(lo mask:Nat):dF->(dF->R)->R
 |[],k=>k []
 |(j,o)::r,k=>bH j λj=>bif Nat.ble lo j && !tb mask (Nat.mod j 61) then aAw lo mask r k else aAw lo mask r λs=>k ((j,o)::s)
def bBx{R:Type}(on:Bool)(lo:Nat)(e:Env)(H:AH)(k:Env->AH->R):R:=match on with
 |false=>k e H
 |true=>aNg e 0 0 0 0 λe m=>yP H.objs m λm=>yP H.objs m λm=>yP H.objs m λm=>aAw lo m H.objs λO=>bH H.next λn=>k e ⟨n,O⟩
def dedupC(on:Bool)(e:Env):Env:=match on with|false=>dedup 0 e|true=>e
theorem fW.dedupC{ρ:Map}{e:Env}{tmps:Array V9}(on:Bool)(h:fW ρ e tmps):fW ρ (dedupC on e) tmps:=by
 cases on with
 |false=>exact h.dedup
 |true=>exact h
theorem bVu(m n:Nat):tb m n=m.testBit n:=by
 have h:Nat.land (Nat.shiftRight m n) 1=m/2^n%2:=by show(m>>>n) &&&1=_;rw[Nat.and_one_is_mod,Nat.shiftRight_eq_div_pow]
 unfold tb;rw[h,Nat.testBit_eq_decide_div_mod_eq];by_cases hd:m/2^n%2=1;· rw[hd];rfl
 ·rw[E7 hd];cases hb:N9 (m/2^n%2) 1 with
  |true=>exact absurd (gO hb) hd
  |false=>rfl
theorem bB1{m s t:Nat}(hne:s≠t)(h:tb m t=false):tb (Nat.lor m (Nat.shiftLeft 1 s)) t=false:=by
 rw[bVu]at *
 show(m |||(1 <<< s)).testBit t=false;rw[Nat.testBit_or,h,Nat.one_shiftLeft,Nat.testBit_two_pow];simpa using hne
theorem aIe{a b:Nat}(h:¬a<b):Nat.blt a b=false:=by
 cases hb:Nat.blt a b with
 |true=>rw[Nat.blt_eq]at hb;exact absurd hb h
 |false=>rfl
theorem aIf{a b:Nat}(h:a<b):Nat.blt a b=true:=by rw[Nat.blt_eq];exact h
theorem cA0{t s s0 s1 s2:Nat}(hs:s<60)(hne:s≠t)(h:aBy t s0 s1 s2=false):aBy t (Nat.lor s0 (Nat.shiftLeft 1 s)) s1 s2=false:=by
 unfold aBy at *
 by_cases h1:t<60;· rw[aIf h1,T7]at *;exact bB1 hne h
 ·rw[aIe h1,F7]at *;exact h
theorem cA1{t s s0 s1 s2:Nat}(hs:¬s<60)(hne:s≠t)(h:aBy t s0 s1 s2=false):aBy t s0 (Nat.lor s1 (Nat.shiftLeft 1 (Nat.sub s 60))) s2=false:=by
 unfold aBy at *
 by_cases h1:t<60;· rw[aIf h1,T7]at *;exact h
 ·rw[aIe h1,F7]at *
  by_cases h2:t<120;· rw[aIf h2,T7]at *;exact bB1 (by show s-60≠t-60;omega) h
  ·rw[aIe h2,F7]at *;exact h
theorem cA2{t s s0 s1 s2:Nat}(hs:¬s<120)(hne:s≠t)(h:aBy t s0 s1 s2=false):aBy t s0 s1 (Nat.lor s2 (Nat.shiftLeft 1 (Nat.sub s 120)))=false:=by
 unfold aBy at *
 by_cases h1:t<60;· rw[aIf h1,T7]at *;exact h
 ·rw[aIe h1,F7]at *
  by_cases h2:t<120;· rw[aIf h2,T7]at *;exact h
  ·rw[aIe h2,F7]at *
   by_cases h3:t<180;· rw[aIf h3,T7]at *;exact bB1 (by show s-120≠t-120;omega) h
   ·rw[aIe h3,F7]at *
theorem zR{t s:Nat}{v:V9}{a b:Env}(h:s≠t->rZ t a=rZ t b):rZ t ((s,v)::a)=rZ t ((s,v)::b):=by
 simp only[rZ];cases hb:N9 s t with
 |true=>rfl
 |false=>exact h λe=>by subst e;simp at hb
theorem xQ{R:Type}:∀(e:Env)(s0 s1 s2 m:Nat)(k:Env->Nat->R),∃e' m',aNg e s0 s1 s2 m k=k e' m'/\∀t,aBy t s0 s1 s2=false->rZ t e'=rZ t e
 |[],s0,s1,s2,m,k=>⟨[],m,rfl,λt _=>rfl⟩
 |(s,v)::r,s0,s1,s2,m,k=>by
  unfold aNg;cases hs:aBy s s0 s1 s2 with
  |true=>
   obtain⟨e',m',h1,h2⟩:=xQ r s0 s1 s2 m k;refine⟨e',m',h1,λt ht=>?_⟩;have hne:s≠t:=λe=>by subst e;rw[ht]at hs;cases hs
   have hb:N9 s t=false:=aQ4 hne;rw[h2 t ht];simp only[rZ,hb,F7]
  |false=>
   simp only[F7,cB];by_cases c0:s<60
   ·rw[aIf c0,T7];obtain⟨e',m',h1,h2⟩:=xQ r (Nat.lor s0 (Nat.shiftLeft 1 s)) s1 s2 (aMh v m) λe m=>k ((s,v)::e) m
    exact⟨(s,v)::e',m',h1,λt ht=>zR λhne=>h2 t (cA0 c0 hne ht)⟩
   rw[aIe c0,F7];by_cases c1:s<120
   ·rw[aIf c1,T7];obtain⟨e',m',h1,h2⟩:=xQ r s0 (Nat.lor s1 (Nat.shiftLeft 1 (Nat.sub s 60))) s2 (aMh v m) λe m=>k ((s,v)::e) m
    exact⟨(s,v)::e',m',h1,λt ht=>zR λhne=>h2 t (cA1 c0 hne ht)⟩
   rw[aIe c1,F7];by_cases c2:s<180
   ·rw[aIf c2,T7];obtain⟨e',m',h1,h2⟩:=xQ r s0 s1 (Nat.lor s2 (Nat.shiftLeft 1 (Nat.sub s 120))) (aMh v m) λe m=>k ((s,v)::e) m
    exact⟨(s,v)::e',m',h1,λt ht=>zR λhne=>h2 t (cA2 c1 hne ht)⟩
   rw[aIe c2,F7];obtain⟨e',m',h1,h2⟩:=xQ r s0 s1 s2 (aMh v m) λe m=>k ((s,v)::e) m
   exact⟨(s,v)::e',m',h1,λt ht=>zR λhne=>h2 t ht⟩
theorem vD{R:Type}:∀(O:dF)(m:Nat)(k:Nat->R),∃m',yP O m k=k m'
 |[],m,k=>⟨m,rfl⟩
 |(j,o)::r,m,k=>by
  unfold yP;cases tb m (Nat.mod j 61) with
  |false=>exact vD r m k
  |true=>
   cases o with
   |cells cs sz=>
    simp only[T7];cases cs.drop 24 with
    |nil=>simp only[cB];exact vD r _ k
    |cons=>exact vD r m k
   |map kk es=>simp only[T7,cB];exact vD r _ k
theorem aFx{R:Type}(lo mask:Nat):∀(S:dF)(k:dF->R),∃O,aAw lo mask S k=k O/\(∀x∈O,x∈S)/\∀j o,j<lo->(j,o)∈S->(j,o)∈O
 |[],k=>⟨[],rfl,λx h=>h,λj o _ h=>h⟩
 |(j,o)::r,k=>by
  unfold aAw;rw[cB];cases hb:(Nat.ble lo j && !tb mask (Nat.mod j 61)) with
  |true=>
   obtain⟨O,h1,h2,h3⟩:=aFx lo mask r k;refine⟨O,h1,λx hx=>List.mem_cons_of_mem _ (h2 x hx),λi o' hi hm=>?_⟩;rcases List.mem_cons.1 hm with e|hm;· cases e;simp only[Bool.and_eq_true,Nat.ble_eq]at hb;omega
   ·exact h3 i o' hi hm
  |false=>
   obtain⟨O,h1,h2,h3⟩:=aFx lo mask r λs=>k ((j,o)::s)
   refine⟨(j,o)::O,h1,λx hx=>?_,λi o' hi hm=>?_⟩
   ·rcases List.mem_cons.1 hx with rfl|hx
    ·exact List.mem_cons_self
    ·exact List.mem_cons_of_mem _ (h2 x hx)
   ·rcases List.mem_cons.1 hm with e|hm
    ·rw[e];exact List.mem_cons_self
    ·exact List.mem_cons_of_mem _ (h3 i o' hi hm)
theorem aQn{R:Type}{on:Bool}{lo:Nat}{e:Env}{H:AH}{k:Env->AH->R}{r:R}(h:bBx on lo e H k=r):
  ∃e' O,k e' ⟨H.next,O⟩=r/\(∀t,rZ t e'=rZ t e)/\(∀x∈O,x∈H.objs)/\∀j o,j<lo->(j,o)∈H.objs->(j,o)∈O:=by
 cases on with
 |false=>exact⟨e,H.objs,h,λt=>rfl,λx h=>h,λj o _ h=>h⟩
 |true=>
  unfold bBx at h;obtain⟨e',m1,e1,q⟩:=xQ e 0 0 0 0 λe m=>yP H.objs m λm=>yP H.objs m λm=>yP H.objs m λm=>aAw lo m H.objs λO=>bH H.next λn=>k e ⟨n,O⟩
  obtain⟨m2,e2⟩:=vD H.objs m1 λm=>yP H.objs m λm=>yP H.objs m λm=>aAw lo m H.objs λO=>bH H.next λn=>k e' ⟨n,O⟩
  obtain⟨m3,e3⟩:=vD H.objs m2 λm=>yP H.objs m λm=>aAw lo m H.objs λO=>bH H.next λn=>k e' ⟨n,O⟩
  obtain⟨m4,e4⟩:=vD H.objs m3 λm=>aAw lo m H.objs λO=>bH H.next λn=>k e' ⟨n,O⟩
  obtain⟨O,e5,e6,e7⟩:=aFx lo m4 H.objs λO=>bH H.next λn=>k e' ⟨n,O⟩
  simp only at h;rw[e1,e2,e3,e4,e5,cB]at h;exact⟨e',O,h,λt=>q t (by
   have tz:∀n,tb 0 n=false:=λn=>by rw[bVu];simp
   unfold aBy;rw[tz,tz,tz];cases Nat.blt t 60<;>cases Nat.blt t 120<;>cases Nat.blt t 180<;>rfl),e6,e7⟩
theorem Next.sweep{lo:Nat}{ρ:Map}{H:AH}{w:W9}(hi:Inv ρ H w){O:dF}(h1:∀x∈O,x∈H.objs)(h2:∀j o,j<lo->(j,o)∈H.objs->(j,o)∈O):Next lo ρ H w ρ ⟨H.next,O⟩ w where
 inv:=⟨hi.dom,λk o hm=>hi.wf k o (h1 _ hm),λk o o' g1 g2=>hi.one k o o' (h1 _ g1) (h1 _ g2),hi.rel.sub h1⟩
 same:=λ_ _=>rfl
 nx:=L9 _
 size:=L9 _
 os:=rfl
 tape:=rfl
 output:=rfl
 keep:=λ_ _ _=>rfl
 own:=λk o s hk hm he=>.inr ⟨k,o,s,hk,h1 _ hm,he,rfl⟩
 old:=λk o hk=>⟨λhm=>h1 _ hm,λhm=>h2 k o hk hm⟩
def aCn(P:Q9)(e:Env)(H:AH):List ResultVar->Option (List V9)
 |[]=>some []
 |.tmp t::r=>(rZ t e).bind λv=>(aCn P e H r).bind λvs=>some (v::vs)
 |.cell t ty::r=>(rZ t e).bind λp=>
  match p with
  |.pointer (some ad)=>
   match aCg ad.block H.objs with
   |some (.cells cs _)=>aCx P ty cs ad.off λv=>(aCn P e H r).bind λvs=>some (v::vs)
   |_=>none
  |_=>none
def rH:List V9->V9
 |[v]=>v
 |vs=>.tuple ⟨vs⟩
def aHo(tmps:Array V9):ResultVar->Sem V9
 |.tmp t=>pure (tmps.getD t undef)
 |.cell a t=>do loadVar t (<-asAddr (tmps.getD a undef))
theorem aBu{P:Q9}{e:Env}{H:AH}:∀{rs:List ResultVar}{vs:List V9},aCn P e H rs=some vs->∀{ρ:Map}{w:W9}{tmps:Array V9},Inv ρ H w->fW ρ e tmps->
  ∃vs',(rs.mapM (aHo tmps)).run P w=.ok vs' w/\cF ρ vs vs'
 |[],vs,h,ρ,w,tmps,hi,he=>by simp[aCn]at h;subst h;exact⟨[],rfl,.nil⟩
 |.tmp t::r,vs,h,ρ,w,tmps,hi,he=>by obtain⟨v,h1,h⟩:=aB h;obtain⟨us,h2,h⟩:=aB h;cases h;obtain⟨v',g1,g2⟩:=he t v h1;obtain⟨us',g3,g4⟩:=aBu h2 hi he;exact⟨v'::us',by simp[List.mapM_cons,aHo,g1,g3],.cons g2 g4⟩
 |.cell t ty::r,vs,h,ρ,w,tmps,hi,he=>by
  obtain⟨p,h1,h⟩:=aB h;split at h
  ·rename_i ad;split at h
   ·rename_i cs sz hl;obtain⟨v,k1,k2⟩:=yO h;obtain⟨us,h2,k1⟩:=aB k1;cases k1;obtain⟨p',g1,g2⟩:=he t _ h1;cases g2 with
    |@ptr kb off sp hk=>obtain⟨s,e1,e2⟩:=hi.rel.obj _ _ (kS hl);rw[hk]at e1;cases e1;obtain⟨v',g2,g3⟩:=k2 e2;obtain⟨us',g4,g5⟩:=aBu h2 hi he;exact⟨v'::us',by simp[List.mapM_cons,aHo,g1,asAddr,g2,g4],.cons g3 g5⟩
   ·cases h
  ·cases h
theorem oB{P:Q9}{e:Env}{H:AH}{fn:Func}{vs:List V9}(h:aCn P e H fn.results.toList=some vs){ρ:Map}{w:W9}{tmps:Array V9}(hi:Inv ρ H w)(he:fW ρ e tmps):
  ∃v',(results fn tmps).run P w=.ok v' w/\dW ρ (rH vs) v':=by
 obtain⟨vs',h1,h2⟩:=aBu h hi he;have hr:(fn.results.mapM (aHo tmps):Sem (Array V9)).run P w=.ok ⟨vs'⟩ w:=by rw[Array.mapM_eq_mapM_toList];simp[h1]
 have e0:results fn tmps=(fn.results.mapM (aHo tmps) >>= λvs=>pure (if h:vs.size=1 then vs[0] else .tuple vs)):=by
  unfold results;have:(λx:ResultVar=>(match x with | .tmp t=>pure (tmps.getD t undef) | .cell a t=>do loadVar t (<-asAddr (tmps.getD a undef)):Sem V9))=aHo tmps:=by funext x;cases x<;>rfl
  rw[<-this];rfl
 refine⟨rH vs',?_,?_⟩
 ·rw[e0,Sem.run_bind,hr];simp only[Result.andThen_ok,Sem.run_pure];congr 1
  match vs' with
  |[]=>rfl
  |[v]=>rfl
  |v::u::r=>simp[rH]
 ·cases h2 with
  |nil=>exact .tuple .nil
  |cons a1 b1=>
   cases b1 with
   |nil=>exact a1
   |cons a2 b2=>exact .tuple (.cons a1 (.cons a2 b2))
def gX(i:Nat):List V9->Env
 |[]=>[]
 |v::r=>(i,v)::gX (i+1) r
theorem aLx{t:Nat}{v:V9}:∀{l:List V9}{i:Nat},rZ t (gX i l)=some v->i<=t/\l[t-i]?=some v
 |[],i,h=>by simp[gX,rZ]at h
 |u::r,i,h=>by
  unfold gX rZ at h;cases hb:N9 i t with
  |true=>have:=gO hb;subst this;rw[hb]at h;cases h;simp
  |false=>rw[hb]at h;obtain⟨h1,h2⟩:=aLx (l:=r) h;refine⟨by omega,?_⟩;rw[show t-i=(t-(i+1))+1 by omega];simpa using h2
theorem uV{ρ:Map}{args args':List V9}(h:cF ρ args args')(n:Nat):fW ρ (gX 0 args) (⟨args'⟩++Array.replicate n undef):=λt v hv=>by obtain⟨_,h1⟩:=aLx hv;obtain⟨v',h2,h3⟩:=h.get _ h1;refine⟨v',?_,h3⟩;simp only[Nat.sub_zero]at h2;have hlt:t<args'.length:=(List.getElem?_eq_some_iff.1 h2).1;rw[Array.getElem?_append_left (by simpa using hlt)];simpa using h2
def iE(P:Q9)(lo sz:Nat)(e:Env)(H:AH)(ex:Ex)(e':Env)(H':AH)(W:(Exit->Act->W9->Prop)->Act->W9->Prop):Prop:=
 ∀{ρ:Map}{w:W9}{a:Act},Inv ρ H w->lo<=H.next->fW ρ e a.tmps->a.tmps.size=sz->
  ∀Q:Exit->Act->W9->Prop,(∀ρ' a' w',Next lo ρ H w ρ' H' w'->fW ρ' e' a'.tmps->a'.tmps.size=sz->a'.defers=a.defers->Q ex.to a' w')->W Q a w
def zL:List X9->Option (List X9×Y9×I9)
 |[]=>none
 |o::r=>
  match r with
  |[]=>
   match o.op,o.guard,o.dst with
   |.defer { callee:=.builtin .clear,args:=⟨[x]⟩,argTypes:=⟨[t]⟩ },none,none=>some ([],x,t)
   |_,_,_=>none
  |_=>(zL r).map λp=>(o::p.1,p.2)
theorem zN{x:Y9}{t:I9}:∀{l pre:List X9},zL l=some (pre,x,t)->
  ∃o,l=pre++[o]/\o.guard=none/\o.dst=none/\o.op=.defer { callee:=.builtin .clear,args:=#[x],argTypes:=#[t] }
 |[],_,h=>by cases h
 |[o],pre,h=>by
  unfold zL at h;simp only at h;split at h;· rename_i x' t' h1 h2 h3;cases h;exact⟨o,rfl,h2,h3,h1⟩
  ·cases h
 |o::q::r,pre,h=>by unfold zL at h;simp only[Option.map_eq_some_iff]at h;obtain⟨⟨pre',p⟩,h1,h2⟩:=h;cases h2;obtain⟨o',e1,e2⟩:=zN h1;exact⟨o',by rw[e1];rfl,e2⟩
def aXj(c:H9):Option (Array X9×List X9×Y9×I9):=
 match c with
 |.region _ ops false=>(zL ops.toList).map λp=>(ops,p)
 |_=>none
def bT9{R:Type}:Cal R:=λ_ _ _ _ _ _ _=>none
theorem bE9{P:Q9}{R:Type}:aGd P (bT9 (R:=R)):=λlo f fn c args H k r h=>by cases h
def aOj{R:Type}(P:Q9)(lo:Nat)(rs:List ResultVar)(k:V9->AH->Option R)(d:Option (I9×V9))(e:Env)(H:AH):Option R:=
 match d with
 |none=>(aCn P e H rs).bind λvs=>k (rH vs) H
 |some (t,v)=>aB5 P lo H t v λH'=>(aCn P e H' rs).bind λvs=>k (rH vs) H'
def aNa{R:Type}(C:Cx)(lo sz:Nat)(ev:H9->Env->AH->(Ex->Env->AH->Option R)->Option R)(fin:Option (I9×V9)->Env->AH->Option R):H9->Env->AH->Option R
 |.seq a b,e,H=>
  match aXj a with
  |some (ops,pre,x,t)=>aIs C bT9 lo sz ops pre e H λe' H'=>(opd e' x).bind λv=>ev b e' H' λex e'' H''=>
    match ex with
    |.exit _=>none
    |_=>fin (some (t,v)) e'' H''
  |none=>ev a e H λex e' H'=>
    match ex with
    |.normal=>aNa C lo sz ev fin b e' H'
    |.ret=>fin none e' H'
    |.exit _=>none
 |c,e,H=>ev c e H λex e' H'=>
   match ex with
   |.exit _=>none
   |_=>fin none e' H'
def bQu(ρ:Map)(d:Option (I9×V9))(a:Act):Prop:=
 match d with
 |none=>a.defers=[]
 |some (t,v)=>∃v' ty cn,a.defers=[{ target:=.builtin .clear #[t] ty cn,args:=#[v'] }]/\dW ρ v v'
theorem aBa{R:Type}{C:Cx}{cal:Cal R}(hC:C.Ok)(hcal:aGd C.P cal){lo sz:Nat}{ops:Array X9}:∀{rest:List X9}{e:Env}{H:AH}{k:Env->AH->Option R}{r:R},
  aIs C cal lo sz ops rest e H k=some r->∃e' H',k e' H'=some r/\∀{ρ:Map}{w:W9}{a:Act},Inv ρ H w->lo<=H.next->fW ρ e a.tmps->a.tmps.size=sz->
   ∀(tail:List X9)(Q:Exit->Act->W9->Prop),(∀ρ' a' w',Next lo ρ H w ρ' H' w'->fW ρ' e' a'.tmps->a'.tmps.size=sz->a'.defers=a.defers->wpList C.P ops Q tail a' w')->wpList C.P ops Q (rest++tail) a w
 |[],e,H,k,r,h=>⟨e,H,h,λ{ρ w a} hi hlo he hs tail Q hQ=>hQ ρ a w (Next.refl hi) he hs rfl⟩
 |o::rest,e,H,k,r,h=>by
  unfold aIs at h;cases hd:aCu sz o with
  |false=>rw[hd]at h;cases h
  |true=>
   rw[hd]at h;simp only[T7]at h;obtain⟨b,h1,h⟩:=aB h;cases b with
   |true=>
    simp only[T7]at h;obtain⟨v,H1,g1,g2⟩:=uW hC hcal h;obtain⟨e',H',k1,k2⟩:=aBa hC hcal (rest:=rest) g1;refine⟨e',H',k1,λ{ρ w a} hi hlo he hs tail Q hQ=>?_⟩;rw[List.cons_append];unfold wpList;rw[if_pos (oD h1 he)];refine .inl (g2 hi hlo he _ Q λρ2 w2 v2 m1 m2=>?_);exact k2 m1.inv (Nat.le_trans hlo m1.nx) (aJ3 hd hs (he.mono (m1.ext hi)) m2) (by rw[aAi];exact hs) tail Q λρ' a' w' q1 q2 q3 q4=>
     hQ ρ' a' w' (m1.trans q1) q2 q3 (by rw[q4,uG])
   |false=>simp only[F7]at h;obtain⟨e',H',k1,k2⟩:=aBa hC hcal (rest:=rest) h;refine⟨e',H',k1,λ{ρ w a} hi hlo he hs tail Q hQ=>?_⟩;rw[List.cons_append];unfold wpList;rw[if_neg (by rw[oD h1 he];exact Bool.false_ne_true)];exact k2 hi hlo (aJ3 hd hs he (.tuple .nil)) (by rw[aAi];exact hs) tail Q λρ' a' w' q1 q2 q3 q4=>hQ ρ' a' w' q1 q2 q3 (by rw[q4,uG])
theorem aFt{R:Type}{C:Cx}(hC:C.Ok){lo sz:Nat}{ev:H9->Env->AH->(Ex->Env->AH->Option R)->Option R}{fin:Option (I9×V9)->Env->AH->Option R}(hev:∀(c:H9)(e:Env)(H:AH)(k:Ex->Env->AH->Option R)(r:R),ev c e H k=some r->∃ex e' H',k ex e' H'=some r/\iE C.P lo sz e H ex e' H' (λQ a w=>c.wp C.P Q a w)):
  ∀(c:H9)(e:Env)(H:AH)(r:R),aNa C lo sz ev fin c e H=some r->∃d e' H',fin d e' H'=some r/\
   ∀{ρ:Map}{w:W9}{a:Act},Inv ρ H w->lo<=H.next->fW ρ e a.tmps->a.tmps.size=sz->a.defers=[]->
    ∀Q:Exit->Act->W9->Prop,(∀ρ' a' w' (ex:Exit),(ex=.normal\/ex=.ret)->Next lo ρ H w ρ' H' w'->fW ρ' e' a'.tmps->a'.tmps.size=sz->bQu ρ' d a'->Q ex a' w')->c.wp C.P Q a w:=by
 have plain:∀(c:H9)(e:Env)(H:AH)(r:R),(ev c e H λex e' H'=>match ex with | .exit _=>none|_=>fin none e' H')=some r->∃d e' H',fin d e' H'=some r/\
   ∀{ρ:Map}{w:W9}{a:Act},Inv ρ H w->lo<=H.next->fW ρ e a.tmps->a.tmps.size=sz->a.defers=[]->
    ∀Q:Exit->Act->W9->Prop,(∀ρ' a' w' (ex:Exit),(ex=.normal\/ex=.ret)->Next lo ρ H w ρ' H' w'->fW ρ' e' a'.tmps->a'.tmps.size=sz->bQu ρ' d a'->Q ex a' w')->c.wp C.P Q a w:=by
  intro c e H r h;obtain⟨ex,e',H',h1,h2⟩:=hev _ _ _ _ _ h;cases ex with
  |exit _=>cases h1
  |normal=>exact⟨none,e',H',h1,λ{ρ w a} hi hlo he hs hd Q hQ=>h2 hi hlo he hs Q λρ' a' w' m1 m2 m3 m4=>hQ ρ' a' w' .normal (.inl rfl) m1 m2 m3 (m4.trans hd)⟩
  |ret=>exact⟨none,e',H',h1,λ{ρ w a} hi hlo he hs hd Q hQ=>h2 hi hlo he hs Q λρ' a' w' m1 m2 m3 m4=>hQ ρ' a' w' .ret (.inr rfl) m1 m2 m3 (m4.trans hd)⟩
 intro c;induction c with
 |seq x y ihx ihy=>
  intro e H r h;unfold aNa at h;split at h
  ·rename_i ops pre ox t hdf;unfold aXj at hdf;split at hdf
   case h_2=>cases hdf
   rename_i id ops';simp only[Option.map_eq_some_iff]at hdf;obtain⟨⟨pre',p⟩,hc,he2⟩:=hdf;cases he2;obtain⟨o,hops,hg,hdst,hop⟩:=zN hc;obtain⟨e1,H1,g1,g2⟩:=aBa hC bE9 h;obtain⟨v,hv,g1⟩:=aB g1;obtain⟨ex,e',H',k1,k2⟩:=hev _ _ _ _ _ g1;have fin1:fin (some (t,v)) e' H'=some r/\(ex.to=.normal\/ex.to=.ret):=by
    cases ex with
    |exit _=>cases k1
    |normal=>exact⟨k1,.inl rfl⟩
    |ret=>exact⟨k1,.inr rfl⟩
   refine⟨some (t,v),e',H',fin1.1,λ{ρ w a} hi hlo he hs hd Q hQ=>wp_seq (wp_region_list ?_)⟩;rw[hops];refine g2 hi hlo he hs [o] _ λρ1 a1 w1 m1 m2 m3 m4=>?_
   have hw:Region.wanted o (yielded ops a1.tmps)=true:=by unfold Region.wanted;rw[hg]
   unfold wpList;rw[if_pos hw];refine .inl ?_;have hrun:∃cn,(execOp a1.eval o).run C.P w1=.ok (.defer { target:=.builtin .clear #[t] o.type cn,args:=#[a1.eval ox] }) w1:=⟨#[ox].map λ| .const _=>true|_=>false,by simp only[execOp,hop,resolve,Sem.run_bind,Sem.run_pure,Result.andThen_ok];rw[show(#[ox]:Array Y9).map a1.eval=#[a1.eval ox] by simp];rfl⟩;obtain⟨cn,hrun⟩:=hrun;unfold X9.wp;rw[hrun,X9.upon_defer,hdst];refine k2 (a:=({ a1 with defers:={ target:=.builtin .clear #[t] o.type cn,args:=#[a1.eval ox] }::a1.defers }:Act).put none undef) m1.inv (Nat.le_trans hlo m1.nx) m2 m3 Q λρ' a' w' q1 q2 q3 q4=>?_
   refine hQ ρ' a' w' _ fin1.2 (m1.trans q1) q2 q3 ⟨a1.eval ox,o.type,cn,?_,(cZ m2 hv).mono (q1.ext m1.inv)⟩;rw[q4];show _::a1.defers=_;rw[m4,hd]
  ·obtain⟨ex,e1,H1,h1,h2⟩:=hev _ _ _ _ _ h;cases ex with
   |exit _=>cases h1
   |ret=>exact⟨none,e1,H1,h1,λ{ρ w a} hi hlo he hs hd Q hQ=>wp_seq (h2 hi hlo he hs _ λρ' a' w' m1 m2 m3 m4=>hQ ρ' a' w' .ret (.inr rfl) m1 m2 m3 (m4.trans hd))⟩
   |normal=>obtain⟨d,e',H',g1,g2⟩:=ihy _ _ _ h1;refine⟨d,e',H',g1,λ{ρ w a} hi hlo he hs hd Q hQ=>wp_seq (h2 hi hlo he hs _ λρ1 a1 w1 m1 m2 m3 m4=>?_)⟩;exact g2 m1.inv (Nat.le_trans hlo m1.nx) m2 m3 (m4.trans hd) Q λρ' a' w' ex' hex q1 q2 q3 q4=>hQ ρ' a' w' ex' hex (m1.trans q1) q2 q3 q4
 |_=>exact plain _
def aFk{R:Type}(body:Env->AH->(Ex->Env->AH->Option R)->Option R)(on:Bool)(lo:Nat):Nat->Env->AH->(Ex->Env->AH->Option R)->Option R
 |0,_,_,_=>none
 |m+1,e,H,k=>body (dedupC on e) H λex e' H'=>
  match ex with
  |.normal=>bBx on lo e' H' λe' H'=>aFk body on lo m e' H' k
  |ex=>k ex e' H'
def lV{R:Type}(C:Cx):Nat->Nat->Nat->H9->Env->AH->(Ex->Env->AH->Option R)->Option R
 |0,_,_,_,_,_,_=>none
 |n+1,lo,sz,c,e,H,k=>
  match c with
  |.skip=>k .normal e H
  |.region _ ops draw=>
   let cal:Cal R:=λlo f fn c args H k=>bif Nat.ble args.length fn.ntmps then
    match C.defs f with
    |true=>aNa C lo fn.ntmps (lV C n lo fn.ntmps) (aOj C.P lo fn.results.toList k) c (gX 0 args) H
    |false=>lV C n lo fn.ntmps c (gX 0 args) H λex e' H'=>
     match ex with
     |.exit _=>none
     |_=>(aCn C.P e' H' fn.results.toList).bind λvs=>k (rH vs) H'
    else none
   bif draw then bif aLu ops then aB8 C cal lo sz ops (aAe ops) H.next 0 [] [] ops.toList e H (λe' H'=>k .normal e' H') else none
   else aIs C cal lo sz ops ops.toList e H λe' H'=>k .normal e' H'
  |.seq a b=>lV C n lo sz a e H λex e' H'=>
    match ex with
    |.normal=>lV C n lo sz b e' H' k
    |ex=>k ex e' H'
  |.cond x a b=>(opd e x).bind λv=>
    match v with
    |.bool t=>bif t then lV C n lo sz a e H k else lV C n lo sz b e H k
    |_=>none
  |.block id a=>lV C n lo sz a e H λex e' H'=>
    match ex with
    |.exit j=>bif N9 j id then k .normal e' H' else k (.exit j) e' H'
    |ex=>k ex e' H'
  |.loop a=>aFk (lV C n lo sz a) C.gc lo n e H k
  |.exit id=>k (.exit id) e H
  |.ret=>k .ret e H
  |_=>none
def aN6{R:Type}(C:Cx)(n:Nat):Cal R:=λlo f fn c args H k=>bif Nat.ble args.length fn.ntmps then
 match C.defs f with
 |true=>aNa C lo fn.ntmps (lV C n lo fn.ntmps) (aOj C.P lo fn.results.toList k) c (gX 0 args) H
 |false=>lV C n lo fn.ntmps c (gX 0 args) H λex e' H'=>
  match ex with
  |.exit _=>none
  |_=>(aCn C.P e' H' fn.results.toList).bind λvs=>k (rH vs) H'
 else none
theorem aDz{R:Type}{C:Cx}(hC:C.Ok){n:Nat}(ih:∀(lo sz:Nat)(c:H9)(e:Env)(H:AH)(k:Ex->Env->AH->Option R)(r:R),lV C n lo sz c e H k=some r->
   ∃ex e' H',k ex e' H'=some r/\iE C.P lo sz e H ex e' H' (λQ a w=>c.wp C.P Q a w)):aGd C.P (aN6 (R:=R) C n):=by
 intro lo f fn c args H k r h hf hb;unfold aN6 at h;cases hl:Nat.ble args.length fn.ntmps with
 |false=>rw[hl]at h;cases h
 |true=>
  rw[hl]at h;simp only[T7]at h;cases hdf:C.defs f with
  |true=>
   rw[hdf]at h;obtain⟨d,e',H',h1,h2⟩:=aFt hC (λc e H k r=>ih lo fn.ntmps c e H k r) _ _ _ _ h;cases d with
   |none=>
    obtain⟨vs,g1,g2⟩:=aB h1;refine⟨rH vs,H',g2,λρ w args' hi hlo ha=>mF hf hb ?_⟩;have hlen:=ha.length;simp only[Nat.ble_eq]at hl;refine h2 hi hlo (uV ha _) (by simp;omega) rfl _ λρ' a' w' ex hex n1 n2 n3 n4=>?_
    obtain⟨v',r1,r2⟩:=oB g1 n1.inv n2;have post:aVq C.P fn (λe w'=>∃ρ' v',e=.returned v'/\dW ρ' (rH vs) v'/\Next lo ρ H w ρ' H' w') .normal a' w':=.inl ⟨n4,v',r1,ρ',v',rfl,r2,n1⟩;rcases hex with rfl|rfl;· exact post
    ·exact post
   |some d=>
    obtain⟨t,v⟩:=d;unfold aOj at h1;obtain⟨H2,k1,k2⟩:=aB6 h1;obtain⟨vs,g1,g2⟩:=aB k1;refine⟨rH vs,H2,g2,λρ w args' hi hlo ha=>mF hf hb ?_⟩;have hlen:=ha.length;simp only[Nat.ble_eq]at hl;refine h2 hi hlo (uV ha _) (by simp;omega) rfl _ λρ' a' w' ex hex n1 n2 n3 n4=>?_
    obtain⟨v',ty,cn,d1,d2⟩:=n4;obtain⟨w2,u,c1,c2⟩:=k2 (ty:=ty) n1.inv d2;obtain⟨v2,r1,r2⟩:=oB g1 c2.inv n2;have hinv:(invoke (.builtin .clear #[t] ty cn) #[v']).run C.P w'=.ok (.value u) w2:=by show(builtin .clear #[t] ty cn #[v']).run C.P w'=_;show(do pure (Go.Next.value (<-Builtin.clear_ #[t] ty #[v'])):Sem Go.Next).run C.P w'=_;rw[Sem.run_bind,c1];rfl
    have post:aVq C.P fn (λe w'=>∃ρ' v',e=.returned v'/\dW ρ' (rH vs) v'/\Next lo ρ H w ρ' H2 w') .normal a' w':=.inr ⟨_,_,_,_,_,u,w2,d1,hinv,v2,r1,ρ',v2,rfl,r2,n1.trans c2⟩;rcases hex with rfl|rfl;· exact post
    ·exact post
  |false=>
  rw[hdf]at h;simp only at h;obtain⟨ex,e',H',h1,h2⟩:=ih _ _ _ _ _ _ _ h;have hex:∃vs,aCn C.P e' H' fn.results.toList=some vs/\k (rH vs) H'=some r/\(ex=.normal\/ex=.ret):=by
   cases ex with
   |exit _=>cases h1
   |normal=>obtain⟨vs,g1,g2⟩:=aB h1;exact⟨vs,g1,g2,.inl rfl⟩
   |ret=>obtain⟨vs,g1,g2⟩:=aB h1;exact⟨vs,g1,g2,.inr rfl⟩
  obtain⟨vs,g1,g2,g3⟩:=hex;refine⟨rH vs,H',g2,λρ w args' hi hlo ha=>calls_of_wp hf hb ?_⟩;have hlen:=ha.length;simp only[Nat.ble_eq]at hl;refine h2 hi hlo (uV ha _) (by simp;omega) _ λρ' a' w' n1 n2 n3 n4=>?_
  obtain⟨v',r1,r2⟩:=oB g1 n1.inv n2;have post:a'.defers=[]/\∃v,(results fn a'.tmps).run C.P w'=.ok v w'/\∃ρ' v',Ending.returned v=.returned v'/\dW ρ' (rH vs) v'/\Next lo ρ H w ρ' H' w':=
   ⟨n4,v',r1,ρ',v',rfl,r2,n1⟩
  rcases g3 with rfl|rfl;· exact post
  ·exact post
theorem aKv{P:Q9}{Q:Exit->Act->W9->Prop}{next:Act->W9->Prop}{ex:Ex}{a:Act}{w:W9}(h:ex≠.normal)(hq:Q ex.to a w):Exit.then next Q ex.to a w:=by
 cases ex with
 |normal=>exact absurd rfl h
 |exit id=>exact hq
 |ret=>exact hq
theorem aAq{R:Type}{P:Q9}{lo sz:Nat}{c:H9}{on:Bool}{body:Env->AH->(Ex->Env->AH->Option R)->Option R}(hb:∀(e:Env)(H:AH)(k:Ex->Env->AH->Option R)(r:R),body e H k=some r->∃ex e' H',k ex e' H'=some r/\iE P lo sz e H ex e' H' (λQ a w=>c.wp P Q a w)):
  ∀(m:Nat)(e:Env)(H:AH)(k:Ex->Env->AH->Option R)(r:R),aFk body on lo m e H k=some r->
   ∃ex e' H',k ex e' H'=some r/\iE P lo sz e H ex e' H' (λQ a w=>H9.rounds P c Q m a w)
 |0,e,H,k,r,h=>by simp[aFk]at h
 |m+1,e,H,k,r,h=>by
  unfold aFk at h;obtain⟨ex,e1,H1,h1,h2⟩:=hb _ _ _ _ h;cases ex with
  |normal=>
   simp only at h1;obtain⟨e2,O,h3,h0,h4,h5⟩:=aQn h1;obtain⟨ex',e',H',g1,g2⟩:=aAq hb m _ _ _ _ h3;refine⟨ex',e',H',g1,λ{ρ w a} hi hlo he hs Q hQ=>?_⟩;show H9.wp P c (Exit.then (H9.rounds P c Q m) Q) a w;refine h2 hi hlo (he.dedupC on) hs _ λρ1 a1 w1 m1 m2 m3 m4=>?_
   have m5:=m1.trans (Next.sweep m1.inv h4 h5);exact g2 m5.inv (Nat.le_trans hlo m5.nx) (λt v hv=>m2 t v (by rw[<-h0 t];exact hv)) m3 Q λρ' a' w' q1 q2 q3 q4=>hQ ρ' a' w' (m5.trans q1) q2 q3 (q4.trans m4)
  |exit id=>refine⟨.exit id,e1,H1,h1,λ{ρ w a} hi hlo he hs Q hQ=>?_⟩;show H9.wp P c (Exit.then (H9.rounds P c Q m) Q) a w;exact h2 hi hlo (he.dedupC on) hs _ λρ1 a1 w1 m1 m2 m3 m4=>aKv (P:=P) (by intro h;cases h) (hQ ρ1 a1 w1 m1 m2 m3 m4)
  |ret=>refine⟨.ret,e1,H1,h1,λ{ρ w a} hi hlo he hs Q hQ=>?_⟩;show H9.wp P c (Exit.then (H9.rounds P c Q m) Q) a w;exact h2 hi hlo (he.dedupC on) hs _ λρ1 a1 w1 m1 m2 m3 m4=>aKv (P:=P) (by intro h;cases h) (hQ ρ1 a1 w1 m1 m2 m3 m4)
theorem pX{R:Type}{C:Cx}(hC:C.Ok)(hmix:C.P.follows .mixedOrders=true):∀(n:Nat),
  (∀(lo sz:Nat)(c:H9)(e:Env)(H:AH)(k:Ex->Env->AH->Option R)(r:R),lV C n lo sz c e H k=some r->
   ∃ex e' H',k ex e' H'=some r/\iE C.P lo sz e H ex e' H' (λQ a w=>c.wp C.P Q a w))/\True
 |0=>⟨λlo sz c e H k r h=>by simp[lV]at h,trivial⟩
 |n+1=>by
  obtain⟨ih1,_⟩:=pX hC hmix n;have hcal:aGd C.P (aN6 (R:=R) C n):=aDz hC ih1;refine⟨λlo sz c e H k r h=>?_,trivial⟩;cases c with
  |skip=>exact⟨.normal,e,H,h,λ{ρ w a} hi hlo he hs Q hQ=>wp_skip (hQ ρ a w (Next.refl hi) he hs rfl)⟩
  |region id ops draw=>
   cases draw with
   |true=>
    simp only[lV,T7]at h;cases hd:aLu ops with
    |false=>rw[hd]at h;cases h
    |true=>
     rw[hd]at h;simp only[T7]at h;obtain⟨vals,heaps,envs,seen,tch,e0,_,e1,hk,ht⟩:=aB9 hC hcal (hp:=λ_=>H) (sp:=λ_=>some []) (tp:=λ_=>[]) h rfl rfl (λx hx=>by simp at hx) (λt ht=>by omega);have e0':heaps 0=H:=e0 0 (L9 _);have htr:nL C lo sz ops vals heaps envs seen tch:=λj o ho=>by have:=ht j o (by simpa using ho);simp only[Nat.zero_add]at this;exact this
     have hlen:0+ops.toList.length=ops.size:=by simp
     rw[hlen]at hk;refine⟨.normal,_,_,hk,λ{ρ w a} hi hlo he hs Q hQ=>wp_region_any hmix ?_⟩;subst e0';subst e1;have hi':Inv ρ (heaps 0) w.drew:=(Next.draw (lo:=lo) hi).inv;have hn0:Next lo ρ (heaps 0) w ρ (heaps 0) w.drew:=Next.draw hi;have nolist:∀i,i<ops.size->(Array.replicate ops.size false).getD i true=false:=λi hi=>by simp[hi]
     have hnz:=kD htr (Nat.zero_le _) (L9 ops.size);refine aV4 (df:=a.defers) hd htr hi' hlo (λρ' a' w' q1 q2 q3 q4=>hQ ρ' a' w' (hn0.trans q1) q2 q3 q4) ops.size ρ (heaps 0).objs _ a w.drew (List.range ops.size) ?_ (by simp) (λi hi _=>by simpa using hi);refine
     {len:=by simp
      cl:=λi o ho hl=>?_
      obj:=λx=>?_
      nx:=(Next.refl hi').objs hnz (λk hk=>hi'.dom k (Nat.le_trans hnz hk)) (λx=>Iff.rfl) (λx hx=>Nat.lt_of_lt_of_le (hi'.wf x.1 x.2 hx) hnz)
      non:=λt h0 h1 k h2 h3=>hi'.dom k (Nat.le_trans (kD htr (Nat.zero_le _) (by omega)) h2)
      hasL:=λx hx t hL s hs=>?_
      has0:=λx hx hN s hs=>?_
      envA:=λi o t ho hd hl=>?_
      envB:=λt _ u hu=>he t u hu
      sz:=hs
      df:=rfl }
     ·have hlt:i<ops.size:=(Array.getElem?_eq_some_iff.1 ho).1;rw[nolist i hlt]at hl;cases hl
     ·constructor
      ·intro hx;exact .inr ⟨λt h1 h2=>(by rw[nolist t h1]at h2;cases h2),hx⟩
      ·rintro (⟨t,⟨h1,h2,_⟩,_⟩|⟨_,hx⟩)
       ·rw[nolist t h1]at h2;cases h2
       ·exact hx
     ·have:=hL.2.1;rw[nolist t hL.1]at this;cases this
     ·obtain⟨s',e1,e2⟩:=hi'.rel.obj x.1 x.2 hx;rw[hs]at e1;cases e1;exact e2.mono λk r hk=>lM.2 ⟨hi'.lt hk,hk⟩
     ·have hlt:i<ops.size:=(Array.getElem?_eq_some_iff.1 ho).1;rw[nolist i hlt]at hl;cases hl
   |false=>simp only[lV,F7]at h;obtain⟨e',H',g1,g2⟩:=yI hC hcal h;exact⟨.normal,e',H',g1,λ{ρ w a} hi hlo he hs Q hQ=>wp_region_list (g2 hi hlo he hs Q hQ)⟩
  |seq x y=>
   simp only[lV]at h;obtain⟨ex,e1,H1,h1,h2⟩:=ih1 _ _ _ _ _ _ _ h;cases ex with
   |normal=>
    simp only at h1;obtain⟨ex',e',H',g1,g2⟩:=ih1 _ _ _ _ _ _ _ h1;refine⟨ex',e',H',g1,λ{ρ w a} hi hlo he hs Q hQ=>wp_seq ?_⟩;refine h2 hi hlo he hs _ λρ1 a1 w1 m1 m2 m3 m4=>?_
    exact g2 m1.inv (Nat.le_trans hlo m1.nx) m2 m3 Q λρ' a' w' q1 q2 q3 q4=>hQ ρ' a' w' (m1.trans q1) q2 q3 (q4.trans m4)
   |exit id=>exact⟨.exit id,e1,H1,h1,λ{ρ w a} hi hlo he hs Q hQ=>wp_seq (h2 hi hlo he hs _ λρ1 a1 w1 m1 m2 m3 m4=>hQ ρ1 a1 w1 m1 m2 m3 m4)⟩
   |ret=>exact⟨.ret,e1,H1,h1,λ{ρ w a} hi hlo he hs Q hQ=>wp_seq (h2 hi hlo he hs _ λρ1 a1 w1 m1 m2 m3 m4=>hQ ρ1 a1 w1 m1 m2 m3 m4)⟩
  |cond x y z=>
   simp only[lV]at h;obtain⟨v,h1,h⟩:=aB h;split at h
   ·rename_i t;have hc:∀{ρ:Map}{a:Act},fW ρ e a.tmps->a.eval x=.bool t:=λ{ρ a} he=>by
     have:=cZ he h1;generalize a.eval x=v' at *
     cases this;rfl
    cases t with
    |true=>obtain⟨ex,e',H',g1,g2⟩:=ih1 _ _ _ _ _ _ _ (by simpa using h);exact⟨ex,e',H',g1,λ{ρ w a} hi hlo he hs Q hQ=>wp_cond_true (hc he) (g2 hi hlo he hs Q hQ)⟩
    |false=>obtain⟨ex,e',H',g1,g2⟩:=ih1 _ _ _ _ _ _ _ (by simpa using h);exact⟨ex,e',H',g1,λ{ρ w a} hi hlo he hs Q hQ=>wp_cond_false (hc he) (g2 hi hlo he hs Q hQ)⟩
   ·cases h
  |block id x=>
   simp only[lV]at h;obtain⟨ex,e1,H1,h1,h2⟩:=ih1 _ _ _ _ _ _ _ h;cases ex with
   |normal=>exact⟨.normal,e1,H1,h1,λ{ρ w a} hi hlo he hs Q hQ=>wp_block (h2 hi hlo he hs _ λρ1 a1 w1 m1 m2 m3 m4=>hQ ρ1 a1 w1 m1 m2 m3 m4)⟩
   |ret=>exact⟨.ret,e1,H1,h1,λ{ρ w a} hi hlo he hs Q hQ=>wp_block (h2 hi hlo he hs _ λρ1 a1 w1 m1 m2 m3 m4=>hQ ρ1 a1 w1 m1 m2 m3 m4)⟩
   |exit j=>
    simp only at h1;cases hj:N9 j id with
    |true=>rw[hj]at h1;have:=gO hj;subst this;refine⟨.normal,e1,H1,h1,λ{ρ w a} hi hlo he hs Q hQ=>wp_block (h2 hi hlo he hs _ λρ1 a1 w1 m1 m2 m3 m4=>?_)⟩;simp only[Ex.to,Exit.inBlock,if_true];exact hQ ρ1 a1 w1 m1 m2 m3 m4
    |false=>
     rw[hj]at h1;have hne:j≠id:=λe=>by subst e;simp at hj
     refine⟨.exit j,e1,H1,h1,λ{ρ w a} hi hlo he hs Q hQ=>wp_block (h2 hi hlo he hs _ λρ1 a1 w1 m1 m2 m3 m4=>?_)⟩;simp only[Ex.to,Exit.inBlock,if_neg hne];exact hQ ρ1 a1 w1 m1 m2 m3 m4
  |loop x=>simp only[lV]at h;obtain⟨ex,e',H',g1,g2⟩:=aAq (λe H k r h=>ih1 lo sz x e H k r h) n e H k r h;exact⟨ex,e',H',g1,λ{ρ w a} hi hlo he hs Q hQ=>wp_loop_rounds n (g2 hi hlo he hs Q hQ)⟩
  |exit id=>exact⟨.exit id,e,H,h,λ{ρ w a} hi hlo he hs Q hQ=>wp_exit (hQ ρ a w (Next.refl hi) he hs rfl)⟩
  |ret=>exact⟨.ret,e,H,h,λ{ρ w a} hi hlo he hs Q hQ=>wp_ret (hQ ρ a w (Next.refl hi) he hs rfl)⟩
  |_=>simp[lV]at h
def fC{R:Type}(C:Cx)(n:Nat)(f:FuncId)(args:List V9)(k:KVO R):Option R:=
 match C.P.funcs[f]? with
 |none=>none
 |some fn=>
  match fn.body with
  |some c=>aN6 C n 0 f fn c args ⟨0,[]⟩ λv _=>bif flat v then k v else none
  |none=>none
theorem cD{R:Type}{C:Cx}(hC:C.Ok)(hmix:C.P.follows .mixedOrders=true){n:Nat}{f:FuncId}{args:List V9}{k:V9->Option R}{r:R}(h:fC C n f args k=some r)(hargs:kZ 0 args=true):∃v,k v=some r/\flat v=true/\∀w,Calls C.P f ⟨args⟩ w λe w'=>e=.returned v/\RowKit.Below w.heap.size w w':=by
 unfold fC at h;split at h;· cases h
 ·rename_i fn hf;split at h
  ·rename_i c hb;obtain⟨v,H',h1,h2⟩:=aDz hC (λlo sz c e H k r=>(pX hC hmix n).1 lo sz c e H k r) _ _ _ _ _ _ _ _ h hf hb;cases hfl:flat v with
   |false=>rw[hfl]at h1;cases h1
   |true=>
    rw[hfl]at h1;refine⟨v,h1,hfl,λw=>?_⟩;have hi:Inv (λ_=>none) ⟨0,[]⟩ w:=⟨λ_ _=>rfl,λk o hm=>by simp at hm,λk o o' hm=>by simp at hm,⟨λk o hm=>by simp at hm,λk o k' o' s s' hm=>by simp at hm⟩⟩;refine(h2 _ w args hi (L9 _) (cF.ofFlat _ hargs)).mono ?_
    rintro e w' ⟨ρ',v',rfl,g1,g2⟩
    have:=g1.flat_eq hfl;subst this;exact⟨rfl,g2.os,g2.tape,g2.output,g2.size,λb hb=>g2.keep b hb λk o s _ hm=>by simp at hm⟩
  ·cases h
end Go.Vm
