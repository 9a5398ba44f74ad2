/- A part; no conditions. -/
import Derived.Test.YtaogignikkjkjaaGreatVmG
import Derived.Lib.AppendZeros
import Derived.Deep.Upon
import Derived.LoopN
set_option maxRecDepth 1000000
set_option maxHeartbeats 1000000
set_option linter.all false
open Nat renaming beq->N9,le_refl->L9
open Bool renaming and_eq_true->B9
open Option renaming bind_some->D9
open Go renaming Value->V9,Program->Q9,World->W9,TypeId->I9,FuncId->F9,Oper->X9,execOp->G9,Builtin->u9
namespace Go.Vm
def aQ1{R:Type}(P:Q9)(H:AH)(t t':I9)(kk:IntKind)(n:Int)(k:V9->AH->Option R):Option R:=none
theorem aGg{R:Type}{P:Q9}{lo:Nat}{H:AH}{t t':I9}{kk:IntKind}{n:Int}{k:V9->AH->Option R}{r:R}(h:aQ1 P H t t' kk n k=some r):
  ∃v H',k v H'=some r/\∀{ρ:Map}{w:W9}{ty:I9},Inv ρ H w->lo<=H.next->
   ∃ρ' w' v',(u9.append_ ⟨[t,t']⟩ ty #[.slice none 0 0,.int kk n]).run P w=.ok v' w'/\Next lo ρ H w ρ' H' w'/\dW ρ' v v':=by cases h
def aLb{R:Type}(P:Q9)(lo:Nat)(H:AH)(t t':I9)(sd:Addr)(n c:Nat)(ad:Addr)(m:Nat)(k:V9->AH->Option R):Option R:=none
theorem aDu{R:Type}{P:Q9}{lo:Nat}{H:AH}{t t':I9}{sd ad:Addr}{n c m cx:Nat}{k:V9->AH->Option R}{r:R}(h:aLb P lo H t t' sd n c ad m k=some r):
  ∃v H',k v H'=some r/\∀{ρ:Map}{w:W9}{s' x':V9}{ty:I9},Inv ρ H w->lo<=H.next->dW ρ (.slice (some sd) n c) s'->dW ρ (.slice (some ad) m cx) x'->
   ∃ρ' w' v',(u9.append_ ⟨[t,t']⟩ ty #[s',x']).run P w=.ok v' w'/\Next lo ρ H w ρ' H' w'/\dW ρ' v v':=by cases h
def aRu{R:Type}:List V9->(List V9->R)->R
 |[],k=>k []
 |v::r,k=>aRu r λl=>k (v::l)
theorem aL4{R:Type}:∀(l:List V9)(k:List V9->R),aRu l k=k l
 |[],k=>rfl
 |v::r,k=>by unfold aRu;rw[aL4 r]
def aDa{R:Type}(H:AH)(k:AH->R):R:=match H.objs with
 |(j,.cells cs sz)::r=>aRu cs λcs=>k ⟨H.next,(j,.cells cs sz)::r⟩
 |_=>k H
theorem yL{R:Type}(H:AH)(k:AH->R):aDa H k=k H:=by
 obtain⟨n,O⟩:=H;unfold aDa;split;· rename_i j cs sz r e;rw[aL4];simp only at e;subst e;rfl
 ·rfl
def aLa{R:Type}(P:Q9)(H:AH)(t t':I9)(s:V9)(k:V9->AH->Option R):Option R:=none
theorem aDt{R:Type}{P:Q9}{lo:Nat}{H:AH}{t t':I9}{s:V9}{k:V9->AH->Option R}{r:R}(h:aLa P H t t' s k=some r):
  ∃v H',k v H'=some r/\∀{ρ:Map}{w:W9}{s':V9}{ty:I9}{c':Nat},Inv ρ H w->lo<=H.next->dW ρ s s'->
   ∃ρ' w' v',(u9.append_ ⟨[t,t']⟩ ty #[s',.slice none 0 c']).run P w=.ok v' w'/\Next lo ρ H w ρ' H' w'/\dW ρ' v v':=by cases h
def vY{R:Type}(P:Q9)(lo:Nat)(H:AH)(ts:List I9)(s x:V9)(k:V9->AH->Option R):Option R:=
 match ts,s,x with
 |[t,t'],.slice none 0 0,.int kk n=>aQ1 P H t t' kk n k
 |[t,t'],s,.slice none 0 0=>aLa P H t t' s k
 |[t,t'],.slice (some sd) n c,.slice (some ad) m _=>bif Nat.blt n c then aLb P lo H t t' sd n c ad m k else aA5 P lo H ts s x λv H=>aDa H (k v)
 |_,_,_=>aA5 P lo H ts s x λv H=>aDa H (k v)
theorem aIb{R:Type}{P:Q9}{lo:Nat}{H:AH}{ts:List I9}{s x:V9}{k:V9->AH->Option R}{r:R}(h:vY P lo H ts s x k=some r):
  ∃v H',k v H'=some r/\∀{ρ:Map}{w:W9}{s' x':V9}{ty:I9},Inv ρ H w->lo<=H.next->dW ρ s s'->dW ρ x x'->
   ∃ρ' w' v',(u9.append_ ⟨ts⟩ ty #[s',x']).run P w=.ok v' w'/\Next lo ρ H w ρ' H' w'/\dW ρ' v v':=by
 unfold vY at h;simp only[yL]at h;split at h;· obtain⟨v,H',h1,h2⟩:=aGg (lo:=lo) h;refine⟨v,H',h1,λ{ρ w s' x' ty} hi hlo hs hx=>?_⟩;cases hs;cases hx;exact h2 hi hlo
 ·obtain⟨v,H',h1,h2⟩:=aDt (lo:=lo) h;refine⟨v,H',h1,λ{ρ w s' x' ty} hi hlo hs hx=>?_⟩;cases hx;exact h2 hi hlo hs
 ·rename_i t t' sd n c ad m cx;cases hb:Nat.blt n c with
  |true=>rw[hb]at h;exact aDu h
  |false=>rw[hb]at h;exact zC h
 ·exact zC h
def bUl(e:Env):Option Operand->Option (Option V9)
 |none=>some none
 |some x=>(opd e x).bind λv=>some (some v)
theorem aJw{ρ:Map}{e:Env}{a:Act}(he:fW ρ e a.tmps){x:Option Operand}{v:Option V9}(h:bUl e x=some v):bHb ρ v (x.map a.eval):=by
 cases x with
 |none=>simp[bUl]at h;subst h;exact .none
 |some x=>obtain⟨u,h1,h⟩:=aB h;cases h;exact .some (cZ he h1)
def bM2{R:Type}(nn:Bool)(f:Option R->Option R)(other:Option R):Option R:=match nn with|true=>f other|false=>other
theorem aHg{R:Type}{nn:Bool}{f:Option R->Option R}{other:Option R}{r:R}(h:bM2 nn f other=some r):other=some r\/f other=some r:=by
 cases nn;· exact .inl h
 ·exact .inr h
def aRg{R:Type}(nn:Bool)(fi:Fi)(P:Q9)(lo:Nat)(e:Env)(H:AH)(o:X9)(k:V9->AH->Option R):Option R:=
 match o.op with
 |.move x=>(opd e x).bind λv=>k v H
 |.assign x=>(opd e x).bind λv=>k v H
 |.pick c x y=>(opd e c).bind λc=>bUp c (opd e x) (opd e y) λv=>k v H
 |.alloc t=>aWt P H t k
 |.box t x=>(opd e x).bind λv=>cAj H v.cells.toList k
 |.build t ps=>(aMt e ps.toList).bind λvs=>aW6 P t vs λv=>k v H
 |.buildSlice t n ps=>(aMt e ps.toList).bind λvs=>yE P H t n vs k
 |.load t x=>(opd e x).bind λv=>
   match v with
   |.pointer (some ad)=>
    match aCg ad.block H.objs with
    |some (.cells cs _)=>aCx P t cs ad.off λv=>k v H
    |_=>none
   |_=>none
 |.store t x y=>(opd e x).bind λp=>(opd e y).bind λv=>
   match p with
   |.pointer (some ad)=>aT2 P lo H t ad v λH'=>k undef H'
   |_=>none
 |.nilCheck x=>(opd e x).bind λv=>aE4 v λv=>k v H
 |.binOp op t x y _=>(opd e x).bind λu=>(opd e y).bind λv=>bM2 nn (aZv op u v λv=>k v H) (bW8 fi op u v (λv=>k v H) (aXq P op t u v (λv=>k v H) (aXr P op t u v (λv=>k v H) (zE P e H o k))))
 |.unOp op t x=>(opd e x).bind λu=>unE op u (λv=>k v H) (zE P e H o k)
 |.convert s d x=>(opd e x).bind λu=>bKu fi P s d u (λv=>k v H) (zE P e H o k)
 |.makeInterface t x=>(opd e x).bind λu=>aBm P t u λv=>k v H
 |.makeFunc f xs ys=>(aS5 e xs.toList).bind λus=>(aS5 e ys.toList).bind λvs=>k (.func f ⟨us⟩ ⟨vs⟩) H
 |.makeSlice t l c=>(opd e l).bind λu=>(opd e c).bind λv=>aBn P H t u v k
 |.slice t x l h none=>(opd e x).bind λv=>(bUl e l).bind λl=>(bUl e h).bind λh=>bBd P H t v l h k
 |.fieldAddr s x f=>(opd e x).bind λv=>aBb P s v f λv=>k v H
 |.field t x f=>(opd e x).bind λv=>aYh P t v f λv=>k v H
 |.indexAddr t x i=>(opd e x).bind λv=>(opd e i).bind λi=>aBi P t v i λv=>k v H
 |.index t x i=>(opd e x).bind λv=>(opd e i).bind λi=>match v with
   |.string _=>zE P e H o k
   |v=>aY3 P t v i λv=>k v H
 |.typeAssert x _ t c=>(opd e x).bind λv=>aN4 P v t c λv=>k v H
 |.extract x i=>(opd e x).bind λv=>aIt v i λv=>k v H
 |.makeMap t h=>(bUl e h).bind λh=>aJi P H t h k
 |.lookup t x i ok=>(opd e x).bind λm=>(opd e i).bind λi=>aPf P H t m i ok λv=>k v H
 |.mapUpdate t x i y=>(opd e x).bind λm=>(opd e i).bind λi=>(opd e y).bind λy=>aJj P lo H t m i y λH'=>k undef H'
 |.insert t x i y=>(opd e x).bind λm=>(opd e i).bind λi=>(opd e y).bind λy=>aJj P lo H t m i y λH'=>k undef H'
 |.call { callee:=.builtin .append,args:=xs,argTypes:=ts }=>(aS5 e xs.toList).bind λvs=>
   match vs with
   |[s,x]=>vY P lo H ts.toList s x k
   |_=>none
 |.call { callee:=.builtin .copy,args:=xs,argTypes:=ts }=>(aS5 e xs.toList).bind λvs=>
   match vs with
   |[d,s]=>bRs P lo H ts.toList d s k
   |_=>none
 |.call { callee:=.builtin b,args:=xs,argTypes:=ts }=>(aS5 e xs.toList).bind λvs=>bM2 nn (aE1 b vs λv=>k v H) (aC4 P b ts vs (λv=>k v H) (zE P e H o k))
 |_=>none
theorem lO.flat{P:Q9}{lo:Nat}{o:X9}{a:Act}{ρ:Map}{H:AH}{w:W9}{v:V9}(hi:Inv ρ H w)(hf:flat v=true)(hr:(G9 a.eval o).run P w=.ok (.value v) w):lO P lo o a ρ H w v H:=lO.calm hi hr (dW.ofFlat ρ hf)
theorem aUz{R:Type}{P:Q9}{lo:Nat}{e:Env}{H:AH}{o:X9}{k:V9->AH->Option R}{r:R}{nn:Bool}{fi:Fi}(hfi:fi.Fair)(h:aRg nn fi P lo e H o k=some r):
  ∃v H',k v H'=some r/\∀{ρ:Map}{w:W9}{a:Act},Inv ρ H w->lo<=H.next->fW ρ e a.tmps->lO P lo o a ρ H w v H':=by
 have hcalm:=λh=>aLh (lo:=lo) (P:=P) (e:=e) (H:=H) (o:=o) (k:=k) (r:=r) h
 unfold aRg at h;split at h;· rename_i x ho;obtain⟨v,h1,h⟩:=aB h;exact⟨v,H,h,λ{ρ w a} hi hlo he=>lO.value (w':=w) (by simp[G9,ho]) (Next.refl hi) (cZ he h1)⟩
 ·rename_i x ho;obtain⟨v,h1,h⟩:=aB h;exact⟨v,H,h,λ{ρ w a} hi hlo he=>lO.value (w':=w) (by simp[G9,ho]) (Next.refl hi) (cZ he h1)⟩
 ·rename_i c x y ho;obtain⟨v,h1,h⟩:=aB h;unfold bUp at h;split at h
  ·rename_i t;have hrun:∀{ρ:Map}{w:W9}{a:Act},fW ρ e a.tmps->(G9 a.eval o).run P w=.ok (.value (if t then a.eval x else a.eval y)) w:=λ{ρ w a} he=>by have hc:=cZ he h1;generalize hec:a.eval c=c' at hc;cases hc;simp[G9,ho,hec,asBool]
   split at h
   ·rename_i u v hx hy;refine⟨_,H,h,λ{ρ w a} hi hlo he=>lO.value (w':=w) (hrun he) (Next.refl hi) ?_⟩;have r1:=cZ he hx;have r2:=cZ he hy;generalize a.eval x=x' at *
    generalize a.eval y=y' at *
    cases r1;cases r2;cases t<;>exact .bool _
   ·cases t with
    |true=>obtain⟨v,h2,h⟩:=aB (by simpa using h);exact⟨v,H,h,λ{ρ w a} hi hlo he=>lO.value (w':=w) (hrun he) (Next.refl hi) (cZ he h2)⟩
    |false=>obtain⟨v,h2,h⟩:=aB (by simpa using h);exact⟨v,H,h,λ{ρ w a} hi hlo he=>lO.value (w':=w) (hrun he) (Next.refl hi) (cZ he h2)⟩
  ·cases h
 ·rename_i t ho;obtain⟨v,H',g1,g2⟩:=aK5 (lo:=lo) h ho;exact⟨v,H',g1,λhi hlo he=>g2 hi hlo⟩
 ·rename_i t x ho;obtain⟨v,h1,h⟩:=aB h;obtain⟨u,H',g1,g2⟩:=aUl (P:=P) (lo:=lo) h ho;exact⟨u,H',g1,λhi hlo he=>g2 hi hlo (cZ he h1)⟩
 ·rename_i t ps ho;obtain⟨vs,h1,h⟩:=aB h;obtain⟨v,g1,g2⟩:=aLe h;refine⟨v,H,g1,λ{ρ w a} hi hlo he=>?_⟩;obtain⟨v',g2,g3⟩:=g2 (w:=w) (aBr he h1);refine lO.value (w':=w) ?_ (Next.refl hi) g3;have e1:(ps.map λ(i,x)=>(i,a.eval x))=(ps.toList.map λ(i,x)=>(i,a.eval x)).toArray:=by apply Array.ext';simp
  simp only[G9,ho,e1,Sem.run_bind,g2,Result.andThen_ok,Sem.run_pure]
 ·rename_i t n ps ho;obtain⟨vs,h1,h⟩:=aB h;obtain⟨v,H',g1,g2⟩:=aA7 (lo:=lo) h ho;exact⟨v,H',g1,λhi hlo he=>g2 hi hlo (aBr he h1)⟩
 ·rename_i t x ho;obtain⟨v,h1,h⟩:=aB h;split at h
  ·rename_i ad;split at h
   ·rename_i cs sz hl;obtain⟨v,g1,g2⟩:=yO h;refine⟨v,H,g1,λ{ρ w a} hi hlo he=>?_⟩;have hx:=cZ he h1;generalize hex:a.eval x=x' at hx;cases hx with
    |@ptr kb off sp hk=>obtain⟨s,e1,e2⟩:=hi.rel.obj _ _ (kS hl);rw[hk]at e1;cases e1;obtain⟨v',g2,g3⟩:=g2 e2;exact lO.value (w':=w) (by simp[G9,ho,hex,Instr.loadAt,Instr.sureAddr,g2]) (Next.refl hi) g3
   ·cases h
  ·cases h
 ·rename_i t x y ho;obtain⟨p,h1,h⟩:=aB h;obtain⟨v,h2,h⟩:=aB h;split at h
  ·rename_i ad;obtain⟨H',g1,g2⟩:=aNd h;refine⟨undef,H',g1,λ{ρ w a} hi hlo he=>?_⟩;have hx:=cZ he h1;have hy:=cZ he h2;generalize hex:a.eval x=x' at hx;cases hx with
   |@ptr kb off sp hk=>obtain⟨w',g2,g3⟩:=g2 hi (.ptr hk) hy;exact lO.skip (by simp[G9,ho,hex,Instr.storeAt,Instr.sureAddr,g2]) g3
  ·cases h
 ·rename_i x ho;obtain⟨v,h1,h⟩:=aB h;obtain⟨v,g1,g2⟩:=aE5 (P:=P) (lo:=lo) (H:=H) h ho;exact⟨v,H,g1,λhi hlo he=>g2 hi (cZ he h1)⟩
 ·rename_i op t x y yt ho;obtain⟨u,h1,h⟩:=aB h;obtain⟨v,h2,h⟩:=aB h;have rest:bW8 fi op u v (λv=>k v H) (aXq P op t u v (λv=>k v H) (aXr P op t u v (λv=>k v H) (zE P e H o k)))=some r->
    ∃v,∃H',k v H'=some r/\∀{ρ:Map}{w:W9}{a:Act},Inv ρ H w->lo<=H.next->fW ρ e a.tmps->lO P lo o a ρ H w v H':=by
   intro h;rcases aUk (P:=P) (t:=t) (ox:=x) (oy:=y) hfi h with h|⟨v,g1,g2,g3⟩
   ·rcases aLy (P:=P) (ox:=x) (oy:=y) h with h|⟨v,g1,g2,g3⟩
    ·rcases aLz (P:=P) (ox:=x) (oy:=y) h with h|⟨v,g1,g2,g3⟩
     ·exact hcalm h
     ·refine⟨v,H,g1,λ{ρ w a} hi hlo he=>lO.flat hi g2 ?_⟩;simp only[G9,ho];rw[Sem.run_bind,g3 (cZ he h1) (cZ he h2)];rfl
    ·refine⟨v,H,g1,λ{ρ w a} hi hlo he=>lO.flat hi g2 ?_⟩;simp only[G9,ho];rw[Sem.run_bind,g3 (cZ he h1) (cZ he h2)];rfl
   ·refine⟨v,H,g1,λ{ρ w a} hi hlo he=>lO.flat hi g2 ?_⟩;simp only[G9,ho];rw[Sem.run_bind,g3 (cZ he h1) (cZ he h2)];rfl
  rcases aHg h with h|h;· exact rest h
  ·rcases aJm (P:=P) (lo:=lo) (H:=H) ho h with h|⟨v,g1,g2⟩
   ·exact rest h
   ·exact⟨v,H,g1,λhi hlo he=>g2 hi (cZ he h1) (cZ he h2)⟩
 ·rename_i op t x ho;obtain⟨u,h1,h⟩:=aB h;rcases bCj (P:=P) h with h|⟨v,g1,g2,g3⟩
  ·exact hcalm h
  ·exact⟨v,H,g1,λ{ρ w a} hi hlo he=>lO.flat hi g2 (by simp[G9,ho,g3 (cZ he h1)])⟩
 ·rename_i s d x ho;obtain⟨u,h1,h⟩:=aB h;rcases aN9 (P:=P) hfi h with h|⟨v,g1,g2,g3⟩
  ·exact hcalm h
  ·exact⟨v,H,g1,λ{ρ w a} hi hlo he=>lO.flat hi g2 (by simp[G9,ho,g3 (cZ he h1)])⟩
 ·rename_i t x ho;obtain⟨v,h1,h⟩:=aB h;obtain⟨v,g1,g2⟩:=aCy (lo:=lo) (H:=H) h ho;exact⟨v,H,g1,λhi hlo he=>g2 hi (cZ he h1)⟩
 ·rename_i f xs ys ho;obtain⟨us,h1,h⟩:=aB h;obtain⟨vs,h2,h⟩:=aB h;refine⟨_,H,h,λ{ρ w a} hi hlo he=>lO.value (w':=w) (v':=.func f ⟨xs.toList.map a.eval⟩ ⟨ys.toList.map a.eval⟩) ?_ (Next.refl hi) (.func f (rJ he h1) (rJ he h2))⟩;have e1:xs.map a.eval=⟨xs.toList.map a.eval⟩:=by apply Array.ext';simp
  have e2:ys.map a.eval=⟨ys.toList.map a.eval⟩:=by apply Array.ext';simp
  simp[G9,ho,Instr.makeFunc,e1,e2]
 ·rename_i t l c ho;obtain⟨u,h1,h⟩:=aB h;obtain⟨v,h2,h⟩:=aB h;obtain⟨v,H',g1,g2⟩:=aCz (lo:=lo) h ho;exact⟨v,H',g1,λhi hlo he=>g2 hi hlo (cZ he h1) (cZ he h2)⟩
 ·rename_i t x l hh ho;obtain⟨v,h1,h⟩:=aB h;obtain⟨l',h2,h⟩:=aB h;obtain⟨h',h3,h⟩:=aB h;obtain⟨v,H',g1,g2⟩:=aM7 (lo:=lo) (H:=H) h ho;exact⟨v,H',g1,λhi hlo he=>g2 hi (cZ he h1) (aJw he h2) (aJw he h3)⟩
 ·rename_i s x f ho;obtain⟨v,h1,h⟩:=aB h;obtain⟨v,g1,g2⟩:=aCv (lo:=lo) (H:=H) h ho;exact⟨v,H,g1,λhi hlo he=>g2 hi (cZ he h1)⟩
 ·rename_i t x f ho;obtain⟨v,h1,h⟩:=aB h;obtain⟨v,g1,g2⟩:=aL2 (lo:=lo) (H:=H) h ho;exact⟨v,H,g1,λhi hlo he=>g2 hi (cZ he h1)⟩
 ·rename_i t x i ho;obtain⟨v,h1,h⟩:=aB h;obtain⟨u,h2,h⟩:=aB h;obtain⟨v,g1,g2⟩:=aCw (lo:=lo) (H:=H) h ho;exact⟨v,H,g1,λhi hlo he=>g2 hi (cZ he h1) (cZ he h2)⟩
 ·rename_i t x i ho;obtain⟨v,h1,h⟩:=aB h;obtain⟨u,h2,h⟩:=aB h;split at h
  ·exact hcalm h
  ·obtain⟨v,g1,g2⟩:=aMa (lo:=lo) (H:=H) h ho;exact⟨v,H,g1,λhi hlo he=>g2 hi (cZ he h1) (cZ he h2)⟩
 ·rename_i x xt t c ho;obtain⟨v,h1,h⟩:=aB h;obtain⟨v,g1,g2⟩:=aIc (lo:=lo) (H:=H) h ho;exact⟨v,H,g1,λhi hlo he=>g2 hi (cZ he h1)⟩
 ·rename_i x i ho;obtain⟨v,h1,h⟩:=aB h;obtain⟨v,g1,g2⟩:=aGk (P:=P) (lo:=lo) (H:=H) h ho;exact⟨v,H,g1,λhi hlo he=>g2 hi (cZ he h1)⟩
 ·rename_i t hh ho;obtain⟨v,h1,h⟩:=aB h;obtain⟨v,H',g1,g2⟩:=aGq (lo:=lo) h ho;exact⟨v,H',g1,λhi hlo he=>g2 hi hlo (aJw he h1)⟩
 ·rename_i t x i ok ho;obtain⟨m,h1,h⟩:=aB h;obtain⟨u,h2,h⟩:=aB h;obtain⟨v,g1,g2⟩:=aJh (lo:=lo) h ho;exact⟨v,H,g1,λhi hlo he=>g2 hi (cZ he h1) (cZ he h2)⟩
 ·rename_i t x i y ho;obtain⟨m,h1,h⟩:=aB h;obtain⟨u,h2,h⟩:=aB h;obtain⟨v,h3,h⟩:=aB h;obtain⟨H',g1,g2⟩:=aAb h (.inl ho);exact⟨undef,H',g1,λhi hlo he=>g2 hi (cZ he h1) (cZ he h2) (cZ he h3)⟩
 ·rename_i t x i y ho;obtain⟨m,h1,h⟩:=aB h;obtain⟨u,h2,h⟩:=aB h;obtain⟨v,h3,h⟩:=aB h;obtain⟨H',g1,g2⟩:=aAb h (.inr ho);exact⟨undef,H',g1,λhi hlo he=>g2 hi (cZ he h1) (cZ he h2) (cZ he h3)⟩
 ·rename_i xs ts ho;obtain⟨vs,h1,h⟩:=aB h;split at h
  ·rename_i s x;obtain⟨v,H',g1,g2⟩:=aIb (lo:=lo) h;refine⟨v,H',g1,λ{ρ w a} hi hlo he=>?_⟩;have hr:=rJ he h1;obtain⟨cs,hrun⟩:=nJ (P:=P) (a:=a) (w:=w) ho rfl;have e1:xs.map a.eval=⟨xs.toList.map a.eval⟩:=by apply Array.ext';simp
   generalize xs.toList.map a.eval=l at *
   cases hr with
   |cons r1 r2=>
    cases r2 with
    |cons r2 r3=>cases r3;obtain⟨ρ',w',v',q1,q2,q3⟩:=g2 (ty:=o.type) hi hlo r1 r2;refine lO.value ?_ q2 q3;rw[hrun];simp only[e1,builtin,Sem.run_bind];rw[show(⟨ts.toList⟩:Array I9)=ts from rfl]at q1;rw[q1];rfl
  ·cases h
 ·rename_i xs ts ho;obtain⟨vs,h1,h⟩:=aB h;split at h
  ·rename_i s x;obtain⟨v,H',g1,g2⟩:=aOa (lo:=lo) h;refine⟨v,H',g1,λ{ρ w a} hi hlo he=>?_⟩;have hr:=rJ he h1;obtain⟨cs,hrun⟩:=nJ (P:=P) (a:=a) (w:=w) ho rfl;have e1:xs.map a.eval=⟨xs.toList.map a.eval⟩:=by apply Array.ext';simp
   generalize xs.toList.map a.eval=l at *
   cases hr with
   |cons r1 r2=>
    cases r2 with
    |cons r2 r3=>cases r3;obtain⟨ρ',w',v',q1,q2,q3⟩:=g2 (ty:=o.type) hi hlo r1 r2;refine lO.value ?_ q2 q3;rw[hrun];simp only[e1,builtin,Sem.run_bind];rw[show(⟨ts.toList⟩:Array I9)=ts from rfl]at q1;rw[q1];rfl
  ·cases h
 ·rename_i b xs ts _n1 _n2 ho;obtain⟨vs,h1,h⟩:=aB h;have rest:aC4 P b ts vs (λv=>k v H) (zE P e H o k)=some r->
    ∃v,∃H',k v H'=some r/\∀{ρ:Map}{w:W9}{a:Act},Inv ρ H w->lo<=H.next->fW ρ e a.tmps->lO P lo o a ρ H w v H':=by
   intro h;rcases aGh (P:=P) (ty:=o.type) h with h|⟨v,g1,g2,g3⟩;· exact hcalm h
   ·refine⟨v,H,g1,λ{ρ w a} hi hlo he=>lO.flat hi g2 ?_⟩;obtain⟨cs,hrun⟩:=nJ (P:=P) (a:=a) (w:=w) ho rfl;rw[hrun];have e1:xs.map a.eval=⟨xs.toList.map a.eval⟩:=by apply Array.ext';simp
    rw[e1];exact g3 (rJ he h1)
  rcases aHg h with h|h;· exact rest h
  ·rcases aBo (P:=P) (ts:=ts) (ty:=o.type) h with h|⟨v,g1,g2⟩
   ·exact rest h
   ·refine⟨v,H,g1,λ{ρ w a} hi hlo he=>?_⟩;obtain⟨cs,hrun⟩:=nJ (P:=P) (a:=a) (w:=w) ho rfl;obtain⟨v',k1,k2⟩:=g2 (w:=w) (cs:=cs) (rJ he h1);have e1:xs.map a.eval=⟨xs.toList.map a.eval⟩:=by apply Array.ext';simp
    rw[<-e1]at k1;exact lO.value (w':=w) (by rw[hrun];exact k1) (Next.refl hi) k2
 ·cases h
abbrev Sum:=∀R:Type,List V9->(V9->Option R)->Option R
abbrev vP:=∀R:Type,List V9->AH->(V9->Option R)->Option R
abbrev aDo:=∀R:Type,List V9->AH->(V9->AH->Option R)->Option R
abbrev Ld:=∀R:Type,List V9->Nat->(V9->Option R)->Option R
abbrev St:=∀R:Type,List V9->Nat->List V9->(List V9->Option R)->Option R
abbrev Ap:=∀R:Type,I9->List V9->Nat->Nat->List V9->Nat->Nat->(List V9->Option R)->Option R
structure Mm where
 lim:Nat->Bool
 ld:I9->Option Ld
 st:St
 ap:Ap
structure Cx where
 P:Q9
 sums:F9->Option Sum
 exts:F9->Option Sum
 meths:I9->String->Option F9
 wild:F9->Bool
 fi:Fi
 nn:Bool
 nan1:F9->Bool
 defs:F9->Bool
 hs:F9->List V9->AH->Option V9
 gs:F9->Option vP:=λ_=>none
 ms:F9->List V9->AH->Option (V9×AH):=λ_ _ _=>none
 gc:Bool:=false
 mg:F9->Option aDo:=λ_=>none
 mm:Option Mm:=none
def bJx(P:Q9)(t:I9)(g:Ld):Prop:=∀(R:Type)(cs:List V9)(off:Nat)(k:KVO R)(r:R),g R cs off k=some r->∃v,k v=some r/\∀(R':Type)(k':V9->Option R'),aCx P t cs off k'=k' v
def cCt(g:St):Prop:=∀(R:Type)(cs:List V9)(off:Nat)(vs:List V9)(k:List V9->Option R)(r:R),g R cs off vs k=some r->off+vs.length<=cs.length/\k (splice cs off vs)=some r
def cCo(P:Q9)(g:Ap):Prop:=∀(R:Type)(t:I9)(cs:List V9)(n c:Nat)(cx:List V9)(off m:Nat)(k:List V9->Option R)(r:R),g R t cs n c cx off m k=some r->
 ∃e i z,P.underlying t=some (.slice e)/\P.info? e=some i/\i.zero=some z/\0<i.size/\z.cells.size=i.size/\c=n/\0<m/\(n+m)*i.bytes<=140737488355328/\n+m<=1099511627776/\
  cs.length=n*i.size/\((cx.drop off).take (m*i.size)).length=m*i.size/\mK ((cx.drop off).take (m*i.size))=true/\k (cs++(cx.drop off).take (m*i.size))=some r
structure Mm.Ok(P:Q9)(M:Mm):Prop where
 ld:∀t g,M.ld t=some g->bJx P t g
 st:cCt M.st
 ap:cCo P M.ap
def aGw(P:Q9)(f:F9)(g:aDo):Prop:=
 ∀(R:Type)(args:List V9)(H:AH)(k:V9->AH->Option R)(r:R),g R args H k=some r->∃v H',k v H'=some r/\
  ∀(lo:Nat)(ρ:Map)(w:W9)(args':List V9),Inv ρ H w->lo<=H.next->cF ρ args args'->Calls P f ⟨args'⟩ w λe w'=>∃ρ' v',e=.returned v'/\dW ρ' v v'/\Next lo ρ H w ρ' H' w'
def aDn(P:Q9)(f:F9)(g:vP):Prop:=
 ∀(R:Type)(args:List V9)(H:AH)(k:KVO R)(r:R),g R args H k=some r->∃v,k v=some r/\flat v=true/\
  ∀(ρ:Map)(w:W9)(args':List V9),Inv ρ H w->cF ρ args args'->Calls P f ⟨args'⟩ w λe w'=>e=.returned v/\RowKit.Below w.heap.size w w'
def cH(P:Q9)(f:F9)(g:Sum):Prop:=
 ∀(R:Type)(args:List V9)(k:KVO R)(r:R),g R args k=some r->kZ 0 args=true/\∃v,k v=some r/\flat v=true/\
  ∀w,Calls P f ⟨args⟩ w λe w'=>e=.returned v/\RowKit.Below w.heap.size w w'
def xS(P:Q9)(f:F9)(g:Sum):Prop:=
 ∀(R:Type)(args:List V9)(k:KVO R)(r:R),g R args k=some r->kZ 0 args=true/\∃v,k v=some r/\flat v=true/\
  ∀w,(callFunc f ⟨args⟩).run P w=.ok (.value v) w
structure Cx.Ok(C:Cx):Prop where
 fair:C.fi.Fair
 sums : ∀f g, C.sums f = some g -> cH C.P f g /\ ∃fn c, C.P.funcs[f]? = some fn /\ (fn.name == "runtime.NumGoroutine") = false /\ fn.body = some c
 exts:∀f g,C.exts f=some g->xS C.P f g
 meths:∀t s f,C.meths t s=some f->∀v w,(method (C.P.types.size+Made.depth) t v s).run C.P w=.ok (f,v) w
 hs : ∀f args H v, C.hs f args H = some v -> (∃fn c, C.P.funcs[f]? = some fn /\ (fn.name == "runtime.NumGoroutine") = false /\ fn.body = some c) /\ flat v = true /\
  ∀(ρ:Map)(w:W9)(args':List V9),Inv ρ H w->cF ρ args args'->Calls C.P f ⟨args'⟩ w λe w'=>e=.returned v/\RowKit.Below w.heap.size w w'
 nan1 : ∀f, C.nan1 f = true -> (∃fn c, C.P.funcs[f]? = some fn /\ (fn.name == "runtime.NumGoroutine") = false /\ fn.body = some c) /\
  ∀b,bE3 b=true->∀w,Calls C.P f ⟨[.float .f64 b]⟩ w λe w'=>(∃c,bE3 c=true/\e=.returned (.float .f64 c))/\RowKit.Below w.heap.size w w'
 gs : ∀f g, C.gs f = some g -> aDn C.P f g /\ ∃fn c, C.P.funcs[f]? = some fn /\ (fn.name == "runtime.NumGoroutine") = false /\ fn.body = some c := by intro f g h; cases h
 ms : ∀f args H p, C.ms f args H = some p -> (∃fn c, C.P.funcs[f]? = some fn /\ (fn.name == "runtime.NumGoroutine") = false /\ fn.body = some c) /\
  ∀(lo:Nat)(ρ:Map)(w:W9)(args':List V9),Inv ρ H w->lo<=H.next->cF ρ args args'->Calls C.P f ⟨args'⟩ w λe w'=>∃ρ' v',e=.returned v'/\dW ρ' p.1 v'/\Next lo ρ H w ρ' p.2 w':=by intro f args H p h;cases h
 mg : ∀f g, C.mg f = some g -> aGw C.P f g /\ ∃fn c, C.P.funcs[f]? = some fn /\ (fn.name == "runtime.NumGoroutine") = false /\ fn.body = some c := by intro f g h; cases h
 mm:∀M,C.mm=some M->M.Ok C.P:=by intro M h;cases h
inductive Ex where
 |normal
 |exit (id:Nat)
 |ret
def Ex.to:Ex->Exit
 |.normal=>.normal
 |.exit id=>.exit id
 |.ret=>.ret
abbrev Cal(R:Type):=Nat->F9->Func->Code->List V9->AH->(V9->AH->Option R)->Option R
def cBb(H H':AH)(v:V9):AH:=bif inn H.next v then H else H'
def bC8{R:Type}(C:Cx)(cal:Cal R)(lo:Nat)(f:F9)(args:List V9)(H:AH)(k:V9->AH->Option R):Option R:=
 match C.P.funcs[f]? with
 |none=>none
 |some fn=>
  match fn.body with
  |some c=>
   bif !(fn.name == "runtime.NumGoroutine") then
    bif C.wild f then cal lo f fn c args H k
    else cal H.next f fn c args H λv H'=>k v (cBb H H' v)
   else none
  |none=>
   bif kZ 0 args then
    match calm C.P (callFunc f ⟨args⟩) with
    |some (.value v)=>bif flat v then k v H else none
    |_=>none
   else none
def bXg{R:Type}(C:Cx)(cal:Cal R)(lo:Nat)(f:F9)(args:List V9)(H:AH)(k:V9->AH->Option R):Option R:=
 match C.exts f with
 |some g=>g R args λv=>k v H
 |none=>bC8 C cal lo f args H k
def bAa(args:List V9):Bool:=match args with | [.float .f32 _]=>true|_=>false
def bDb{R:Type}(C:Cx)(cal:Cal R)(lo:Nat)(f:F9)(args:List V9)(H:AH)(k:V9->AH->Option R):Option R:=
 match C.nn with
 |false=>
  match C.mg f with
  |some g=>g R args H k
  |none=>
  match C.gs f with
  |some g=>g R args H λv=>k v H
  |none=>
   match C.sums f with
   |some g=>g R args λv=>k v H
   |none=>bXg C cal lo f args H k
 |true=>
  bif C.nan1 f&&bAa args then k (.float .f32 0) H
  else match C.ms f args H with
   |some p=>k p.1 p.2
   |none=>
   match C.hs f args H with
   |some v=>k v H
   |none=>
    match C.sums f with
    |some g=>
     match g V9 args some with
     |some v=>k v H
     |none=>bC8 C cal lo f args H k
    |none=>bXg C cal lo f args H k
def aGd(P:Q9){R:Type}(cal:Cal R):Prop:=
 ∀lo f fn c args H k r,cal lo f fn c args H k=some r->P.funcs[f]?=some fn->fn.body=some c->
  ∃v H',k v H'=some r/\∀ρ w args',Inv ρ H w->lo<=H.next->cF ρ args args'->Calls P f ⟨args'⟩ w λe w'=>∃ρ' v',e=.returned v'/\dW ρ' v v'/\Next lo ρ H w ρ' H' w'
theorem tR{lo:Nat}{ρ:Map}{H:AH}{w w':W9}(hi:Inv ρ H w)(hb:RowKit.Below w.heap.size w w'):Next lo ρ H w ρ H w':=
 Next.forget (lo:=lo) (ρ':=ρ) (H':=H) hi
  {inv:=⟨hi.dom,hi.wf,hi.one,⟨λk o hm=>let ⟨s,h1,h2⟩:=hi.rel.obj k o hm;⟨s,h1,h2.heap (hb.block s.b h2.lt)⟩,hi.rel.inj⟩⟩
   same:=λ_ _=>rfl
   nx:=L9 _
   size:=hb.size
   os:=hb.os
   tape:=hb.tape
   output:=hb.output
   keep:=λb hb' _=>hb.block b hb'
   own:=λk o s hk hm he=>.inr ⟨k,o,s,hk,hm,he,rfl⟩
   old:=λ_ _ _=>Iff.rfl }
def yX(P:Q9)(lo:Nat)(s:Sem Go.Next)(ρ:Map)(H:AH)(w:W9)(v:V9)(H':AH):Prop:=
 (∃v',s.run P w=.ok (.value v') w/\dW ρ v v'/\H'=H)\/
 (∃f args',s.run P w=.ok (.enter f args') w/\Calls P f args' w λe w'=>∃ρ' v',e=.returned v'/\dW ρ' v v'/\Next lo ρ H w ρ' H' w')
theorem gI{P : Q9}{f : F9}{fn : Func}{c : Code}{args : Array V9}{w : W9}(hf : P.funcs[f]? = some fn) (hn : (fn.name == "runtime.NumGoroutine") = false) (hb : fn.body = some c) :
  (callFunc f args).run P w=.ok (.enter f args) w:=by
 have hn' : ¬ fn.name = "runtime.NumGoroutine" := by simpa using hn
 simp[callFunc,hf,hn',hb]
theorem aDy{R:Type}{C:Cx}{cal:Cal R}(hcal:aGd C.P cal){lo:Nat}{f:F9}{args:List V9}{H:AH}{k:V9->AH->Option R}{r:R}(h:bC8 C cal lo f args H k=some r):
  ∃v H',k v H'=some r/\∀{ρ:Map}{w:W9}{args':List V9},Inv ρ H w->lo<=H.next->cF ρ args args'->yX C.P lo (callFunc f ⟨args'⟩) ρ H w v H':=by
 unfold bC8 at h;split at h;· cases h
 ·rename_i fn hf;split at h
  ·rename_i c hb;cases hn : (fn.name == "runtime.NumGoroutine") with
   |true=>rw[hn]at h;cases h
   |false=>
    rw[hn]at h;simp only[Bool.not_false,T7]at h;cases hw:C.wild f with
    |true=>rw[hw]at h;obtain⟨v,H',g1,g2⟩:=hcal _ _ _ _ _ _ _ _ h hf hb;exact⟨v,H',g1,λ{ρ w args'} hi hlo ha=>.inr ⟨f,_,gI hf hn hb,g2 ρ w args' hi hlo ha⟩⟩
    |false=>
     rw[hw]at h;obtain⟨v,H',g1,g2⟩:=hcal _ _ _ _ _ _ _ _ h hf hb;refine⟨v,cBb H H' v,g1,λ{ρ w args'} hi hlo ha=>.inr ⟨f,_,gI hf hn hb,(g2 ρ w args' hi (L9 _) ha).mono ?_⟩⟩
     rintro e w' ⟨ρ',v',rfl,hv,hnx⟩
     unfold cBb;cases hin:inn H.next v with
     |true=>exact⟨ρ,v',rfl,hv.scope hnx.same hin,hnx.forget hi⟩
     |false=>exact⟨ρ',v',rfl,hv,hnx.weaken hlo hi⟩
  ·cases hfl:kZ 0 args with
   |false=>rw[hfl]at h;cases h
   |true=>
    rw[hfl]at h;simp only[T7]at h;split at h
    ·rename_i v hc;cases hf':flat v with
     |false=>rw[hf']at h;cases h
     |true=>rw[hf']at h;refine⟨v,H,h,λ{ρ w args'} hi hlo ha=>?_⟩;have:=ha.flat_eq hfl;subst this;exact .inl ⟨v,bV hc w,dW.ofFlat ρ hf',rfl⟩
    ·cases h
theorem aHb{R:Type}{C:Cx}{cal:Cal R}(hC:C.Ok)(hcal:aGd C.P cal){lo:Nat}{f:F9}{args:List V9}{H:AH}{k:V9->AH->Option R}{r:R}(h:bXg C cal lo f args H k=some r):
  ∃v H',k v H'=some r/\∀{ρ:Map}{w:W9}{args':List V9},Inv ρ H w->lo<=H.next->cF ρ args args'->yX C.P lo (callFunc f ⟨args'⟩) ρ H w v H':=by
 unfold bXg at h;split at h;· rename_i g hg;obtain⟨hfl,v,g1,g2,g3⟩:=hC.exts f g hg _ _ _ _ h;refine⟨v,H,g1,λ{ρ w args'} hi hlo ha=>?_⟩;have:=ha.flat_eq hfl;subst this;exact .inl ⟨v,g3 w,dW.ofFlat ρ g2,rfl⟩
 ·exact aDy hcal h
theorem aHu{C:Cx}(hC:C.Ok){lo:Nat}{f:F9}{g:Sum}(hg:C.sums f=some g){R:Type}{args:List V9}{k:V9->Option R}{r:R}(h:g R args k=some r):
  ∃v,k v=some r/\∀{ρ:Map}{H:AH}{w:W9}{args':List V9},Inv ρ H w->lo<=H.next->cF ρ args args'->yX C.P lo (callFunc f ⟨args'⟩) ρ H w v H:=by
 obtain⟨hs,fn,c,h1,h2,h3⟩:=hC.sums f g hg;obtain⟨hfl,v,g1,g2,g3⟩:=hs _ _ _ _ h;refine⟨v,g1,λ{ρ H w args'} hi hlo ha=>?_⟩;have:=ha.flat_eq hfl;subst this;refine .inr ⟨f,_,gI h1 h2 h3,(g3 w).mono ?_⟩
 rintro e w' ⟨rfl,hb⟩
 exact⟨ρ,v,rfl,dW.ofFlat ρ g2,tR hi hb⟩
theorem aD0{R:Type}{C:Cx}{cal:Cal R}(hC:C.Ok)(hcal:aGd C.P cal){lo:Nat}{f:F9}{args:List V9}{H:AH}{k:V9->AH->Option R}{r:R}(h:bDb C cal lo f args H k=some r):
  ∃v H',k v H'=some r/\∀{ρ:Map}{w:W9}{args':List V9},Inv ρ H w->lo<=H.next->cF ρ args args'->yX C.P lo (callFunc f ⟨args'⟩) ρ H w v H':=by
 unfold bDb at h;split at h
 ·split at h
  ·rename_i g hg;obtain⟨hs,fn,c,q1,q2,q3⟩:=hC.mg f g hg;obtain⟨v,H',h1,h2⟩:=hs _ _ _ _ _ h;exact⟨v,H',h1,λ{ρ w args'} hi hlo ha=>.inr ⟨f,_,gI q1 q2 q3,h2 lo ρ w args' hi hlo ha⟩⟩
  split at h
  ·rename_i g hg;obtain⟨hs,fn,c,q1,q2,q3⟩:=hC.gs f g hg;obtain⟨v,h1,h2,h3⟩:=hs _ _ _ _ _ h;refine⟨v,H,h1,λ{ρ w args'} hi hlo ha=>.inr ⟨f,_,gI q1 q2 q3,(h3 ρ w args' hi ha).mono ?_⟩⟩
   rintro e w' ⟨rfl,hbl⟩
   exact⟨ρ,v,rfl,dW.ofFlat ρ h2,tR hi hbl⟩
  ·split at h
   ·rename_i g hg;obtain⟨v,h1,h2⟩:=aHu hC (lo:=lo) hg h;exact⟨v,H,h1,λhi hlo ha=>h2 hi hlo ha⟩
   ·exact aHb hC hcal h
 ·cases hn:(C.nan1 f&&bAa args) with
  |true=>
   rw[hn]at h;simp only[B9]at hn;obtain⟨⟨fn,c,q1,q2,q3⟩,q4⟩:=hC.nan1 f hn.1;refine⟨_,H,h,λ{ρ w args'} hi hlo ha=>?_⟩;have h1:=hn.2;unfold bAa at h1;split at h1
   ·obtain _|⟨r1,r2⟩:=ha;cases r2;cases r1 with|nan _ hb=>
    refine .inr ⟨f,_,gI q1 q2 q3,(q4 _ hb w).mono ?_⟩
    rintro e w' ⟨⟨c,hc,rfl⟩,hbl⟩
    exact⟨ρ,_,rfl,.nan 0 hc,tR hi hbl⟩
   ·cases h1
  |false=>
   rw[hn]at h;simp only[F7]at h;split at h;· rename_i p hp;obtain⟨⟨fn,c,q1,q2,q3⟩,q5⟩:=hC.ms f args H p hp;exact⟨p.1,p.2,h,λ{ρ w args'} hi hlo ha=>.inr ⟨f,_,gI q1 q2 q3,q5 lo ρ w args' hi hlo ha⟩⟩
   split at h
   ·rename_i v hv;obtain⟨⟨fn,c,q1,q2,q3⟩,q4,q5⟩:=hC.hs f args H v hv;refine⟨v,H,h,λ{ρ w args'} hi hlo ha=>.inr ⟨f,_,gI q1 q2 q3,(q5 ρ w args' hi ha).mono ?_⟩⟩
    rintro e w' ⟨rfl,hbl⟩
    exact⟨ρ,v,rfl,dW.ofFlat ρ q4,tR hi hbl⟩
   ·split at h
    ·rename_i g hg;split at h
     ·rename_i v hv;obtain⟨v',h1,h2⟩:=aHu hC (lo:=lo) hg hv;cases h1;exact⟨v,H,h,λhi hlo ha=>h2 hi hlo ha⟩
     ·exact aDy hcal h
    ·exact aHb hC hcal h
def bTr{R:Type}(M:Mm)(t:I9)(H:AH)(ad:Addr)(k:V9->AH->Option R):Option R:=
 match aCg ad.block H.objs with
 |some (.cells cs _)=>match M.ld t with
  |some g=>g R cs ad.off λv=>k v H
  |none=>none
 |_=>none
def bJh{R:Type}(M:Mm)(P:Q9)(lo:Nat)(H:AH)(t:I9)(ad:Addr)(v:V9)(k:AH->Option R):Option R:=
 match aCg ad.block H.objs with
 |some (.cells cs sz)=>
  bif Nat.ble lo ad.block&&N9 v.cells.toList.length (P.cellsOf t) && !N9 (P.cellsOf t) 0&&mK v.cells.toList&&ad.spot.isNone then
   M.st R cs ad.off v.cells.toList λcs=>k (H.put ad.block (.cells cs sz))
  else none
 |_=>none
def aN3{R:Type}(M:Mm)(P:Q9)(lo:Nat)(H:AH)(t t':I9)(s:V9)(ad:Addr)(m:Nat)(k:V9->AH->Option R):Option R:=
 bif N9 t t'&&ad.spot.isNone then
  match P.underlying t with
  |some (.slice e)=>
   match aCg ad.block H.objs with
   |some (.cells cx _)=>
    match s with
    |.slice none 0 0=>M.ap R t [] 0 0 cx ad.off m λcs=>k (.slice (some ⟨H.next,0,none⟩) m m) (H.push (.cells cs (P.cellsOf e)))
    |.slice (some sd) n c=>
     match aCg sd.block H.objs with
     |some (.cells cs sz)=>
      bif sd.spot.isNone&&N9 sd.off 0 && !N9 sd.block ad.block then
       bif N9 sz 0 then M.ap R t cs n c cx ad.off m λcs=>k (.slice (some ⟨H.next,0,none⟩) (n+m) (n+m)) (H.push (.cells cs (P.cellsOf e)))
       else bif N9 sz (P.cellsOf e)&&Nat.ble lo sd.block then M.ap R t cs n c cx ad.off m λcs=>k (.slice (some ⟨H.next,0,none⟩) (n+m) (n+m)) ⟨H.next+1,(H.next,.cells cs (P.cellsOf e))::drop sd.block H.objs⟩
       else none
      else none
     |_=>none
    |_=>none
   |_=>none
  |_=>none
 else none
theorem aG5{P:Q9}{e:I9}{i:TypeInfo}(h:P.info? e=some i):P.cellsOf e=i.size:=by unfold Q9.cellsOf;rw[h];rfl
theorem vZ{a b:Nat}(h:a<b):Nat.blt a b=true:=by rw[Nat.blt_eq];exact h
theorem iJ{a b:Nat}(h:a<=b):Nat.ble a b=true:=by rw[Nat.ble_eq];exact h
theorem bC7(a:Nat):Nat.blt a a=false:=by
 cases hb:Nat.blt a a with
 |true=>rw[Nat.blt_eq]at hb;omega
 |false=>rfl
theorem aIa{R:Type}{M:Mm}{P:Q9}(hM:M.Ok P){lo:Nat}{H:AH}{t t':I9}{s:V9}{ad:Addr}{m cx:Nat}{k:V9->AH->Option R}{r:R}(h:aN3 M P lo H t t' s ad m k=some r):
  vY P lo H [t,t'] s (.slice (some ad) m cx) k=some r:=by
 unfold aN3 at h;cases h0:(N9 t t'&&ad.spot.isNone) with
 |false=>rw[h0]at h;cases h
 |true=>
 rw[h0]at h;simp only[T7]at h;simp only[B9]at h0;obtain⟨h0,hsp⟩:=h0;have h0':=gO h0;subst h0';split at h
 case h_2=>cases h
 rename_i e hu;split at h
 case h_2=>cases h
 rename_i cxs szx hx;split at h;· obtain⟨e',i,z,q1,q2,q3,q4,q5,q6,q7,q8,q9,q10,q11,q12,q13⟩:=hM.ap _ _ _ _ _ _ _ _ _ _ h;rw[hu]at q1;cases q1;rw[aG5 q2]at q13;unfold vY;simp only[yL];unfold aA5;simp only[h0,hu,q2,q3,T7,vZ q4,show N9 z.cells.size i.size=true by rw[q5];exact Nat.beq_refl _,Bool.and_self];unfold aJp;simp only[hx,hsp,q11,Nat.beq_refl,Bool.and_self,T7,D9,vZ q7,q12];simp only[Nat.zero_add]at q8 q9;rw[iJ q8,iJ q9];simpa using q13
 ·rename_i sd n c;split at h
  case h_2=>cases h
  rename_i cs sz hl;cases h1:(sd.spot.isNone&&N9 sd.off 0 && !N9 sd.block ad.block) with
  |false=>rw[h1]at h;cases h
  |true=>
  rw[h1]at h;simp only[T7]at h;simp only[B9]at h1;obtain⟨⟨s1,s2⟩,s3⟩:=h1;have s2':=gO s2;have key:∀(k':List V9->Option R),M.ap R t cs n c cxs ad.off m k'=some r->(N9 sz 0=true/\(∀cs2,k' cs2=k (.slice (some ⟨H.next,0,none⟩) (n+m) (n+m)) (H.push (.cells cs2 (P.cellsOf e))))
    \/N9 sz 0=false/\sz=P.cellsOf e/\Nat.ble lo sd.block=true/\∀cs2,k' cs2=k (.slice (some ⟨H.next,0,none⟩) (n+m) (n+m)) ⟨H.next+1,(H.next,.cells cs2 (P.cellsOf e))::drop sd.block H.objs⟩)->
    vY P lo H [t,t] (.slice (some sd) n c) (.slice (some ad) m cx) k=some r:=by
   intro k' g alt;obtain⟨e',i,z,q1,q2,q3,q4,q5,q6,q7,q8,q9,q10,q11,q12,q13⟩:=hM.ap _ _ _ _ _ _ _ _ _ _ g;rw[hu]at q1;cases q1;have olds:aJp H i.size sd n=some cs:=by unfold aJp;rw[hl];simp only[s1,s2',List.drop_zero];rw[List.take_of_length_le (by omega),q10];simp
   have news:aJp H i.size ad m=some ((cxs.drop ad.off).take (m*i.size)):=by unfold aJp;rw[hx];simp only[hsp,q11,Nat.beq_refl,Bool.and_self,T7]
   subst q6;have main:vY P lo H [t,t] (.slice (some sd) c c) (.slice (some ad) m cx) k =
     bif N9 sz 0 then k (.slice (some ⟨H.next,0,none⟩) (c+m) (c+m)) (H.push (.cells (cs++(cxs.drop ad.off).take (m*i.size)) i.size))
     else bif N9 sz i.size&&N9 sd.off 0&&N9 cs.length (c*i.size)&&Nat.ble lo sd.block then
      k (.slice (some ⟨H.next,0,none⟩) (c+m) (c+m)) ⟨H.next+1,(H.next,.cells (cs++(cxs.drop ad.off).take (m*i.size)) i.size)::drop sd.block H.objs⟩
     else none:=by
    unfold vY;simp only[bC7,F7,yL];unfold aA5;simp only[Nat.beq_refl,hu,q2,q3,T7,vZ q4,show N9 z.cells.size i.size=true by rw[q5];exact Nat.beq_refl _,Bool.and_self];rw[news];simp only[D9,vZ q7,q12,Bool.and_self,T7,hl,olds,Nat.beq_refl,iJ q8,iJ q9]
   rw[aG5 q2]at alt;rcases alt with ⟨a1,a2⟩|⟨a1,a2,a3,a4⟩;· rw[a2]at q13;rw[main,a1];exact q13
   ·rw[a4]at q13;rw[main,a1,a2,s2',q10,a3];simpa using q13
  cases hz:N9 sz 0 with
  |true=>rw[hz]at h;exact key _ h (.inl ⟨hz,λ_=>rfl⟩)
  |false=>
   rw[hz]at h;simp only[F7]at h;cases hb:(N9 sz (P.cellsOf e)&&Nat.ble lo sd.block) with
   |false=>rw[hb]at h;cases h
   |true=>rw[hb]at h;simp only[B9]at hb;exact key _ h (.inr ⟨hz,gO hb.1,hb.2,λ_=>rfl⟩)
 ·cases h
def aU6(v:V9)(L:Nat->Bool):Bool:=match v with
 |.pointer (some ad)=>L ad.block
 |.slice (some ad) _ _=>L ad.block
 |_=>false
def bBl{R:Type}(v:V9)(k:V9->R):R:=match v with
 |.bool b=>bif b then k (.bool true) else k (.bool false)
 |v=>k v
theorem bBm{R:Type}(v:V9)(k:V9->R):bBl v k=k v:=by
 unfold bBl;split;· rename_i b;cases b<;>rfl
 ·rfl
def evM{R:Type}(M:Mm)(C:Cx)(lo:Nat)(e:Env)(H:AH)(o:X9)(k:V9->AH->Option R):Option R:=
 match o.op with
 |.load t x=>(opd e x).bind λv=>bif aU6 v M.lim then(match v with | .pointer (some ad)=>bTr M t H ad k|_=>none) else aRg C.nn C.fi C.P lo e H o k
 |.store t x y=>(opd e x).bind λp=>bif aU6 p M.lim then(opd e y).bind λv=>(match p with | .pointer (some ad)=>bJh M C.P lo H t ad v λH=>k undef H|_=>none) else aRg C.nn C.fi C.P lo e H o k
 |.call { callee:=.builtin .append,args:=xs,argTypes:=ts }=>(aS5 e xs.toList).bind λvs=>
   match vs,ts.toList with
   |[s,.slice (some ad) m _],[t,t']=>bif aU6 s M.lim||M.lim ad.block then aN3 M C.P lo H t t' s ad m k else aRg C.nn C.fi C.P lo e H o k
   |_,_=>aRg C.nn C.fi C.P lo e H o k
 |.binOp _ _ _ _ _=>aRg C.nn C.fi C.P lo e H o λv H=>bBl v λv=>k v H
 |_=>aRg C.nn C.fi C.P lo e H o k
theorem bDu{R:Type}{M:Mm}{C:Cx}(hM:M.Ok C.P){lo:Nat}{e:Env}{H:AH}{o:X9}{k:V9->AH->Option R}{r:R}(h:evM M C lo e H o k=some r):aRg C.nn C.fi C.P lo e H o k=some r:=by
 unfold evM at h;split at h
 ·rename_i t x ho;obtain⟨v,h1,h⟩:=aB h;cases hl:aU6 v M.lim with
  |false=>rw[hl]at h;exact h
  |true=>
   rw[hl]at h;simp only[T7]at h;split at h
   ·rename_i ad;unfold bTr at h;split at h
    ·rename_i cs sz hk;split at h
     ·rename_i g hg;obtain⟨u,g1,g2⟩:=hM.ld t g hg _ _ _ _ _ h;unfold aRg;rw[ho];simp only[h1,D9,hk,g2];exact g1
     ·cases h
    ·cases h
   ·cases h
 ·rename_i t x y ho;obtain⟨p,h1,h⟩:=aB h;cases hl:aU6 p M.lim with
  |false=>rw[hl]at h;exact h
  |true=>
   rw[hl]at h;simp only[T7]at h;obtain⟨v,h2,h⟩:=aB h;cases p with
   |pointer a=>
    cases a with
    |none=>cases hl
    |some ad=>
     simp only at h;unfold bJh at h;split at h
     ·rename_i cs sz hk;cases hb:(Nat.ble lo ad.block&&N9 v.cells.toList.length (C.P.cellsOf t) && !N9 (C.P.cellsOf t) 0&&mK v.cells.toList&&ad.spot.isNone) with
      |false=>rw[hb]at h;cases h
      |true=>rw[hb]at h;simp only[T7]at h;obtain⟨g1,g2⟩:=hM.st _ _ _ _ _ _ h;simp only[B9]at hb;obtain⟨⟨⟨⟨b1,b2⟩,b3⟩,b4⟩,b5⟩:=hb;unfold aRg;rw[ho];simp only[h1,h2,D9];unfold aT2;simp only[hk,b1,b2,b3,b4,b5,iJ g1,Bool.and_self,T7];exact g2
     ·cases h
   |slice a n c=>cases h
   |_=>cases hl
 ·rename_i xs ts ho;obtain⟨vs,h1,h⟩:=aB h;split at h
  ·rename_i s ad m cx t t' hts;cases hl:(aU6 s M.lim||M.lim ad.block) with
   |false=>rw[hl]at h;exact h
   |true=>rw[hl]at h;have:=aIa (cx:=cx) hM h;unfold aRg;rw[ho];simp only[h1,D9,hts];exact this
  ·exact h
 ·simp only[bBm]at h;exact h
 ·exact h
def aXt{R:Type}(C:Cx)(cal:Cal R)(lo:Nat)(e:Env)(H:AH)(o:X9)(k:V9->AH->Option R):Option R:=
 match o.op with
 |.call { callee:=.value x,args:=xs,argTypes:=_ }=>(opd e x).bind λfv=>(aS5 e xs.toList).bind λvs=>
   match fv with
   |.func (.func f) ⟨as⟩ ⟨bs⟩=>bDb C cal lo f (as++vs++bs) H k
   |_=>none
 |.call { callee:=.invoke x name,args:=xs,argTypes:=_ }=>(opd e x).bind λiv=>(aS5 e xs.toList).bind λvs=>
   match iv with
   |.iface t v=>
    match C.meths t name with
    |some f=>bDb C cal lo f (v::vs) H k
    |none=>none
   |_=>none
 |_=>match C.mm with
  |none=>aRg C.nn C.fi C.P lo e H o k
  |some M=>evM M C lo e H o k
def bCw(P:Q9)(lo:Nat)(o:X9)(a:Act)(ρ:Map)(H:AH)(w:W9)(v:V9)(H':AH):Prop:=
 ∀(K:Act->W9->Prop)(Q:Exit->Act->W9->Prop),(∀ρ' w' v',Next lo ρ H w ρ' H' w'->dW ρ' v v'->K (a.put o.dst v') w')->o.wp P a w K Q
theorem bCw.ofDone{P:Q9}{lo:Nat}{o:X9}{a:Act}{ρ:Map}{H:AH}{w:W9}{v:V9}{H':AH}(h:lO P lo o a ρ H w v H'):bCw P lo o a ρ H w v H':=by
 intro K Q hK;obtain⟨ρ',w',v',n,h1,h2,h3,h4⟩:=h;unfold X9.wp;rw[h1];rcases h2 with rfl|⟨rfl,rfl⟩;· exact hK ρ' w' v' h3 h4
 ·exact hK ρ' w' undef h3 h4
theorem bCw.ofCall{P:Q9}{lo:Nat}{o:X9}{a:Act}{ρ:Map}{H:AH}{w:W9}{v:V9}{H':AH}(hi:Inv ρ H w){s:Sem Go.Next}(hs:(G9 a.eval o).run P w=s.run P w)(h:yX P lo s ρ H w v H'):bCw P lo o a ρ H w v H':=by
 intro K Q hK;unfold X9.wp;rw[hs];rcases h with ⟨v',h1,h2,rfl⟩|⟨f,args',h1,h2⟩;· rw[h1];exact hK ρ w v' (Next.refl hi) h2
 ·rw[h1];refine h2.mono ?_
  rintro e w' ⟨ρ',v',rfl,g1,g2⟩
  exact hK ρ' w' v' g2 g1
theorem uW{R:Type}{C:Cx}{cal:Cal R}(hC:C.Ok)(hcal:aGd C.P cal){lo:Nat}{e:Env}{H:AH}{o:X9}{k:V9->AH->Option R}{r:R}(h:aXt C cal lo e H o k=some r):
  ∃v H',k v H'=some r/\∀{ρ:Map}{w:W9}{a:Act},Inv ρ H w->lo<=H.next->fW ρ e a.tmps->bCw C.P lo o a ρ H w v H':=by
 unfold aXt at h;split at h
 ·rename_i x xs ts ho;obtain⟨fv,h1,h⟩:=aB h;obtain⟨vs,h2,h⟩:=aB h;split at h
  ·rename_i f as bs;obtain⟨v,H',g1,g2⟩:=aD0 hC hcal h;refine⟨v,H',g1,λ{ρ w a} hi hlo he=>?_⟩;have hx:=cZ he h1;generalize hex:a.eval x=x' at hx;cases hx with
   |func _ h3 h4=>
    rename_i as' bs';refine bCw.ofCall hi ?_ (g2 hi hlo ((h3.append (rJ he h2)).append h4));have e1:xs.map a.eval=⟨xs.toList.map a.eval⟩:=by apply Array.ext';simp
    simp only[G9,ho,resolve,hex,Deferred.ofValue,Sem.run_bind,Sem.run_pure,Result.andThen_ok,invoke,e1];simp
  ·cases h
 ·rename_i x name xs ts ho;obtain⟨iv,h1,h⟩:=aB h;obtain⟨vs,h2,h⟩:=aB h;cases iv with
  |iface t v=>
   simp only at h;cases hm:C.meths t name with
   |none=>rw[hm]at h;cases h
   |some f=>
    rw[hm]at h;simp only at h;obtain⟨v2,H',g1,g2⟩:=aD0 hC hcal h;refine⟨v2,H',g1,λ{ρ w a} hi hlo he=>?_⟩;have hx:=cZ he h1;generalize hex:a.eval x=x' at hx;cases hx with
    |iface _ h3=>
     rename_i v';refine bCw.ofCall hi ?_ (g2 hi hlo (.cons h3 (rJ he h2)));have e1:xs.map a.eval=⟨xs.toList.map a.eval⟩:=by apply Array.ext';simp
     simp only[G9,ho,resolve,hex,Sem.run_bind,Sem.run_pure,Result.andThen_ok,invoke,e1];have e2:List.take xs.size (List.map a.eval xs.toList)=List.map a.eval xs.toList:=List.take_of_length_le (by simp);simp[callMethod,hC.meths t name f hm,e2]
  |_=>cases h
 ·have h:aRg C.nn C.fi C.P lo e H o k=some r:=by
   split at h;· exact h
   ·rename_i M hM;exact bDu (hC.mm M hM) h
  obtain⟨v,H',g1,g2⟩:=aUz (lo:=lo) hC.fair h;exact⟨v,H',g1,λhi hlo he=>bCw.ofDone (g2 hi hlo he)⟩
end Go.Vm
