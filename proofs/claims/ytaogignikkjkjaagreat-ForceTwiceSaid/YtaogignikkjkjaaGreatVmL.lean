/- A part; no conditions. -/
import Derived.Test.YtaogignikkjkjaaGreatVmK
import Derived.Defers
import Derived.Lib.SliceRun
set_option maxRecDepth 1000000
set_option maxHeartbeats 1000000
set_option linter.all false
open Nat renaming le_refl->L9
open Bool renaming and_eq_true->B9
open Go renaming Value->V9,Program->Q9,World->W9,TypeId->I9,Oper->X9,Builtin->u9
namespace Go.Vm
theorem aCi{ops:Array X9}{ms:List Nat}:∀{l:List (X9×Nat)},aJy ops ms l=true->
  (∀(p:Nat) x,l[p]?=some x->∀e∈x.1.after.toList,Region.binds .any e=true->e.on<x.2)/\
  (∀(p q:Nat) x y,p<q->l[p]?=some x->l[q]?=some y->aAh ops x.2 x.1 y.1 (ms.getD y.2 0)=true)
 |[],_=>⟨λp x h=>by simp at h,λp q x y _ h=>by simp at h⟩
 |(o,i)::r,h=>by
  unfold aJy at h;simp only[B9,List.all_eq_true]at h;obtain⟨⟨h1,h2⟩,h3⟩:=h;obtain⟨g1,g2⟩:=aCi h3;refine⟨λp x hx=>?_,λp q x y hpq hx hy=>?_⟩
  ·cases p with
   |zero=>simp only[List.getElem?_cons_zero,Option.some.injEq]at hx;subst hx;intro e he hb;have:=h1 e he;simpa[hb] using this
   |succ p=>exact g1 p x (by simpa using hx)
  ·cases q with
   |zero=>omega
   |succ q=>
    cases p with
    |zero=>simp only[List.getElem?_cons_zero,Option.some.injEq]at hx;subst hx;exact h2 y (List.mem_of_getElem? (by simpa using hy))
    |succ p=>exact g2 p q x y (by omega) (by simpa using hx) (by simpa using hy)
theorem aOh{ops:Array X9}(h:aLu ops=true):
  (∀(i:Nat) o,ops[i]?=some o->∀e∈o.after,Region.binds .any e=true->e.on<i)/\
  (∀(i j:Nat) oi oj,i<j->ops[i]?=some oi->ops[j]?=some oj->aAh ops i oi oj ((aAe ops).getD j 0)=true):=by
 obtain⟨h1,h2⟩:=aCi h;have hz:∀(i:Nat) o,ops[i]?=some o->ops.toList.zipIdx[i]?=some (o,i):=λi o hi=>by rw[List.getElem?_zipIdx,Array.getElem?_toList,hi];simp
 exact⟨λi o hi e he=>h1 i _ (hz i o hi) e (by simpa using he),λi j oi oj hij hi hj=>h2 i j _ _ hij (hz i oi hi) (hz j oj hj)⟩
def cut(ρ:Map)(n:Nat):Map:=λk=>bif Nat.blt k n then ρ k else none
theorem lM{ρ:Map}{n k:Nat}{s:aC3}:cut ρ n k=some s↔k<n/\ρ k=some s:=by
 unfold cut;cases h:Nat.blt k n with
 |true=>
      simp only[T7];have:k<n:=by simpa using h
      exact⟨λg=>⟨this,g⟩,λg=>g.2⟩
 |false=>
       simp only[F7];have:¬k<n:=λg=>by rw[show Nat.blt k n=true by simpa using g]at h;cases h
       exact⟨λg=>(by cases g),λg=>absurd g.1 this⟩
theorem wX{ρ ρ':Map}{n n':Nat}(h:∀k p,ρ k=some p->ρ' k=some p)(hn:n<=n'):∀k p,cut ρ n k=some p->cut ρ' n' k=some p:=λk p hk=>by obtain⟨h1,h2⟩:=lM.1 hk;exact lM.2 ⟨by omega,h k p h2⟩
theorem bRu{ρ ρ':Map}{n:Nat}(h:∀k p,k<n->ρ k=some p->ρ' k=some p):∀k p,cut ρ n k=some p->ρ' k=some p:=λk p hk=>by obtain⟨h1,h2⟩:=lM.1 hk;exact h k p h1 h2
theorem Next.objs{lo:Nat}{ρ ρ':Map}{H:AH}{w w':W9}{n n':Nat}{O O':dF}(h:Next lo ρ H w ρ' ⟨n,O⟩ w')(hn:H.next<=n')(hd:∀k,n'<=k->ρ' k=none)(hO:∀x,x∈O'↔x∈O)(hwf:∀x,x∈O'->x.1<n'):
  Next lo ρ H w ρ' ⟨n',O'⟩ w':=
 {h with
  inv:=⟨hd,λk o hm=>hwf _ hm,λk o o' h1 h2=>h.inv.one k o o' ((hO _).1 h1) ((hO _).1 h2),h.inv.rel.sub λx hx=>(hO x).1 hx⟩
  nx:=hn
  own:=λk o s hk hm=>h.own k o s hk ((hO _).1 hm)
  old:=λk o hk=>(hO _).trans (h.old k o hk) }
theorem bJ6{lo lo' nj nj1 N:Nat}{ρ0 ρ ρ1:Map}{H0 H2:AH}{w0 w w':W9}{O V O':dF}{T:List Nat}(hx:Next lo ρ0 H0 w0 ρ ⟨N,O⟩ w)(h0:H0.next<=nj)(h1:nj<=nj1)(h2:nj1<=N)(hlo:lo<=H0.next)(hV:∀x,x∈V->x∈O/\x.1<nj)(hl:(lo'=lo/\∀x,x∈V->x.1∈T)\/(lo'=nj/\T=[]))(hT:∀k,k∈T->k<nj/\∀o,(k,o)∈O->(k,o)∈V)(hnone:∀k,nj<=k->k<nj1->ρ k=none)(n1:Next lo' (cut ρ nj) ⟨nj,V⟩ w ρ1 H2 w')(hn:H2.next=nj1)(hO:∀x,x∈O'↔(x∈H2.objs/\((nj<=x.1/\x.1<nj1)\/x.1∈T))\/(x∈O/\x.1∉T)):
  ∃ρ':Map,Next lo ρ0 H0 w0 ρ' ⟨N,O'⟩ w'/\(∀k q,ρ k=some q->ρ' k=some q)/\(∀k q,ρ1 k=some q->ρ' k=some q)/\(∀k,¬(nj<=k/\k<nj1)->ρ' k=ρ k)/\(∀k,nj<=k->k<nj1->ρ' k=ρ1 k)/\
   ∀x s,x∈O->x.1∉T->ρ x.1=some s->w'.heap[s.b]?=w.heap[s.b]?:=by
 let ρ':Map:=λk=>if nj<=k/\k<nj1 then ρ1 k else ρ k
 have rin:∀k,nj<=k->k<nj1->ρ' k=ρ1 k:=λk h1 h2=>if_pos ⟨h1,h2⟩
 have rout:∀k,¬(nj<=k/\k<nj1)->ρ' k=ρ k:=λk h=>if_neg h
 have hρ:∀k q,ρ k=some q->ρ' k=some q:=λk q hk=>by
  by_cases h:nj<=k/\k<nj1;· rw[hnone k h.1 h.2]at hk;cases hk
  ·rw[rout k h];exact hk
 have low:∀k,k<nj->ρ1 k=ρ k:=λk hk=>by have:=n1.same k hk;rw[this];unfold cut;rw[show Nat.blt k nj=true by simpa using hk];rfl
 have hρ1:∀k q,ρ1 k=some q->ρ' k=some q:=λk q hk=>by
  have hlt1:k<H2.next:=n1.inv.lt hk;by_cases h:nj<=k;· rw[rin k h (by omega)];exact hk
  ·rw[rout k (λg=>h g.1),<-low k (by omega)];exact hk
 have lo'le:lo'<=nj:=by rcases hl with ⟨h,_⟩|⟨h,_⟩<;>omega
 have olt:∀x s,x∈O->ρ x.1=some s->s.b<w.heap.size:=λx s hx2 hs=>by obtain⟨s2,e1,e2⟩:=hx.inv.rel.obj x.1 x.2 hx2;rw[hs]at e1;cases e1;exact e2.lt
 have keepO:∀x s,x∈O->x.1∉T->ρ x.1=some s->w'.heap[s.b]?=w.heap[s.b]?:=λx s hx2 hT2 hs=>by
  refine n1.keep s.b (olt x s hx2 hs) λk o s2 g1 g2 g3 g4=>?_
  obtain⟨q1,q2⟩:=hV _ g2;have g3':=(lM.1 g3).2;rcases hl with ⟨_,h⟩|⟨h,_⟩;· have:=hx.inv.rel.inj k o x.1 x.2 s2 s q1 hx2 g3' hs g4;subst this;exact hT2 (h (x.1,o) g2)
  ·simp only at q2;omega
 have outO:∀x,x∈O->¬(nj<=x.1/\x.1<nj1):=λx hx2 h=>by obtain⟨s,e1,_⟩:=hx.inv.rel.obj x.1 x.2 hx2;rw[hnone x.1 h.1 h.2]at e1;cases e1
 have h2map:∀x s,x∈H2.objs->ρ1 x.1=some s->(nj<=x.1/\x.1<nj1)\/x.1∈T->(w.heap.size<=s.b/\lo<=x.1)\/∃y s',y∈O/\y.1∈T/\ρ y.1=some s'/\s'.b=s.b/\(lo<=x.1->lo<=y.1):=λx s hx2 hs hc=>by
  rcases Nat.lt_or_ge x.1 lo' with g|g
  ·have hin:=(n1.old x.1 x.2 g).1 hx2;obtain⟨q1,q2⟩:=hV _ hin;have hk:x.1∈T:=by
    rcases hc with h|h;· omega
    ·exact h
   exact .inr ⟨x,s,q1,hk,by rw[<-low x.1 q2];exact hs,rfl,λh=>h⟩
  ·rcases n1.own x.1 x.2 s g hx2 hs with h|⟨k',o',s',e1,e2,e3,e4⟩
   ·refine .inl ⟨h,?_⟩;rcases hl with ⟨h',_⟩|⟨h',_⟩<;>omega
   ·obtain⟨q1,q2⟩:=hV _ e2;rcases hl with ⟨h',h3⟩|⟨h',_⟩
    ·exact .inr ⟨(k',o'),s',q1,h3 _ e2,(lM.1 e3).2,e4,λ_=>by rw[<-h'];exact e1⟩
    ·simp only at q2;omega
 refine⟨ρ',?_,hρ,hρ1,rout,rin,keepO⟩;have r1:∀x s,x∈H2.objs->((nj<=x.1/\x.1<nj1)\/x.1∈T)->ρ' x.1=some s->ρ1 x.1=some s:=λx s hx2 hc hs=>by
  rcases hc with h|h;· rw[rin x.1 h.1 h.2]at hs;exact hs
  ·have:=(hT x.1 h).1;rw[rout x.1 (by omega)]at hs;rw[low x.1 this];exact hs
 have r2:∀x s,x∈O->ρ' x.1=some s->ρ x.1=some s:=λx s hx2 hs=>by rw[rout x.1 (outO x hx2)]at hs;exact hs
 exact
 {inv:=⟨λk hk=>by
    simp only at hk;rw[rout k (by omega)];exact hx.inv.dom k hk,
   λk o hm=>by
    rcases(hO _).1 hm with ⟨g1,g2⟩|⟨g1,_⟩;· have:=n1.inv.wf k o g1;simp only;omega
    ·exact hx.inv.wf k o g1,
   λk o1 o2 m1 m2=>by
    rcases(hO _).1 m1 with ⟨g1,g2⟩|⟨g1,g2⟩<;>rcases(hO _).1 m2 with ⟨k1,k2⟩|⟨k1,k2⟩
    ·exact n1.inv.one k o1 o2 g1 k1
    ·rcases g2 with g2|g2
     ·exact absurd g2 (outO (k,o2) k1)
     ·exact absurd g2 k2
    ·rcases k2 with k2|k2
     ·exact absurd k2 (outO (k,o1) g1)
     ·exact absurd k2 g2
    ·exact hx.inv.one k o1 o2 g1 k1,
   ⟨λk o hm=>by
    rcases(hO _).1 hm with ⟨g1,g2⟩|⟨g1,g2⟩;· obtain⟨s,e1,e2⟩:=n1.inv.rel.obj k o g1;exact⟨s,hρ1 k s e1,e2.mono hρ1⟩
    ·obtain⟨s,e1,e2⟩:=hx.inv.rel.obj k o g1;exact⟨s,hρ k s e1,(e2.mono hρ).heap (keepO (k,o) s g1 g2 e1)⟩,
    λk o k' o' s s' m1 m2 m3 m4 m5=>by
    rcases(hO _).1 m1 with ⟨g1,g2⟩|⟨g1,g2⟩<;>rcases(hO _).1 m2 with ⟨k1,k2⟩|⟨k1,k2⟩
    ·exact n1.inv.rel.inj k o k' o' s s' g1 k1 (r1 (k,o) s g1 g2 m3) (r1 (k',o') s' k1 k2 m4) m5
    ·rcases h2map (k,o) s g1 (r1 (k,o) s g1 g2 m3) g2 with ⟨q,_⟩|⟨y,sy,y1,y2,y3,y4,_⟩
     ·have:=olt (k',o') s' k1 (r2 (k',o') s' k1 m4);omega
     ·have:=hx.inv.rel.inj y.1 y.2 k' o' sy s' y1 k1 y3 (r2 (k',o') s' k1 m4) (by omega);simp only at k2;rw[this]at y2;exact absurd y2 k2
    ·rcases h2map (k',o') s' k1 (r1 (k',o') s' k1 k2 m4) k2 with ⟨q,_⟩|⟨y,sy,y1,y2,y3,y4,_⟩
     ·have:=olt (k,o) s g1 (r2 (k,o) s g1 m3);omega
     ·have:=hx.inv.rel.inj y.1 y.2 k o sy s y1 g1 y3 (r2 (k,o) s g1 m3) (by omega);simp only at g2;rw[this]at y2;exact absurd y2 g2
    ·exact hx.inv.rel.inj k o k' o' s s' g1 k1 (r2 (k,o) s g1 m3) (r2 (k',o') s' k1 m4) m5⟩⟩
  same:=λk hk=>by rw[rout k (by omega)];exact hx.same k hk
  nx:=hx.nx
  size:=Nat.le_trans hx.size n1.size
  os:=n1.os.trans hx.os
  tape:=n1.tape.trans hx.tape
  output:=n1.output.trans hx.output
  keep:=λb hb hnn=>by
   rw[<-hx.keep b hb hnn];refine n1.keep b (Nat.lt_of_lt_of_le hb hx.size) λk o s g1 g2 g3 g4=>?_
   obtain⟨q1,q2⟩:=hV _ g2;rcases hl with ⟨h',_⟩|⟨h',_⟩
   ·rcases hx.own k o s (by omega) q1 (lM.1 g3).2 with h|⟨k',o',s',e1,e2,e3,e4⟩
    ·omega
    ·exact hnn k' o' s' e1 e2 e3 (e4.trans g4)
   ·simp only at q2;omega
  own:=λk o s hk hm hs=>by
   rcases(hO _).1 hm with ⟨g1,g2⟩|⟨g1,g2⟩
   ·rcases h2map (k,o) s g1 (r1 (k,o) s g1 g2 hs) g2 with ⟨q,_⟩|⟨y,sy,y1,y2,y3,y4,y5⟩
    ·exact .inl (Nat.le_trans hx.size q)
    ·rcases hx.own y.1 y.2 sy (y5 hk) y1 y3 with h|⟨k',o',s',e1,e2,e3,e4⟩
     ·exact .inl (by omega)
     ·exact .inr ⟨k',o',s',e1,e2,e3,e4.trans y4⟩
   ·exact hx.own k o s hk g1 (r2 (k,o) s g1 hs)
  old:=λk o hk=>by
   rw[<-hx.old k o hk,hO];constructor
   ·rintro (⟨g1,g2⟩|⟨g1,_⟩)
    ·rcases g2 with g2|g2
     ·simp only at g2;omega
     ·have hin:=(n1.old k o (by rcases hl with ⟨h',_⟩|⟨h',_⟩<;>omega)).1 g1;exact(hV _ hin).1
    ·exact g1
   ·intro hm;by_cases hk2:k∈T
    ·have hin:=(hT k hk2).2 o hm;exact .inl ⟨(n1.old k o (by rcases hl with ⟨h',_⟩|⟨h',_⟩<;>omega)).2 hin,.inr hk2⟩
    ·exact .inr ⟨hm,hk2⟩ }
section
variable{C:Cx}{lo sz:Nat}{ops:Array X9}{vals:Nat->V9}{heaps:Nat->AH}{envs:Nat->Env}{seen:Nat->Option (List Nat)}{tch:Nat->List Nat}
def nL(C:Cx)(lo sz:Nat)(ops:Array X9)(vals:Nat->V9)(heaps:Nat->AH)(envs:Nat->Env)(seen:Nat->Option (List Nat))(tch:Nat->List Nat):Prop:=
 ∀(j:Nat) o,ops[j]?=some o->aCu sz o=true/\aQ0 C lo ops ((aAe ops).getD j 0) heaps seen tch j o (lB (envs j) (jS ops o)) (vals j)/\envs (j+1)=aWf o (vals j) (envs j)
theorem aHx(ht:nL C lo sz ops vals heaps envs seen tch){j:Nat}(hj:j<ops.size):(heaps j).next<=(heaps (j+1)).next:=by
 obtain⟨_,hs,_⟩:=ht j ops[j] (by simp[hj]);rcases hs with ⟨_,_,h,_⟩|⟨_,_,h,_⟩|⟨_,_,V,H2,l,vis,_,_,_,_,_,h1,h2,_⟩;· rw[h];exact L9 _
 ·rw[h];exact L9 _
 ·rw[h2];exact h1
theorem aKr(ht:nL C lo sz ops vals heaps envs seen tch):∀(d i:Nat),i+d<=ops.size->(heaps i).next<=(heaps (i+d)).next
 |0,i,_=>L9 _
 |d+1,i,h=>Nat.le_trans (aKr ht d i (by omega)) (aHx ht (j:=i+d) (by omega))
theorem kD(ht:nL C lo sz ops vals heaps envs seen tch){i j:Nat}(h:i<=j)(hj:j<=ops.size):(heaps i).next<=(heaps j).next:=by have:=aKr ht (j-i) i (by omega);rwa[show i+(j-i)=j by omega]at this
theorem aF1(ht:nL C lo sz ops vals heaps envs seen tch)(t:Tmp):∀i,i<=ops.size->
  (∃j o,j<i/\ops[j]?=some o/\o.dst=some t/\rZ t (envs i)=some (vals j))\/((∀(j:Nat) o,j<i->ops[j]?=some o->o.dst≠some t)/\rZ t (envs i)=rZ t (envs 0))
 |0,_=>.inr ⟨λj o h=>by omega,rfl⟩
 |i+1,hi=>by
  have hlt:i<ops.size:=by omega
  obtain⟨_,_,he⟩:=ht i ops[i] (by simp[hlt]);have ih:=aF1 ht t i (by omega);rw[he];unfold aWf;cases hd:(ops[i]).dst with
  |none=>
   simp only;rcases ih with ⟨j,o,h1,h2,h3,h4⟩|⟨h1,h2⟩;· exact .inl ⟨j,o,by omega,h2,h3,h4⟩
   ·refine .inr ⟨λj o hj ho=>?_,h2⟩;by_cases hji:j=i
    ·subst hji;simp[hlt]at ho;subst ho;rw[hd];simp
    ·exact h1 j o (by omega) ho
  |some d=>
   simp only[rZ];cases hb:Nat.beq d t with
   |true=>have:=gO hb;subst this;exact .inl ⟨i,ops[i],by omega,by simp[hlt],hd,rfl⟩
   |false=>
    have hne:d≠t:=λe=>by subst e;simp at hb
    simp only[F7];rcases ih with ⟨j,o,h1,h2,h3,h4⟩|⟨h1,h2⟩;· exact .inl ⟨j,o,by omega,h2,h3,h4⟩
    ·refine .inr ⟨λj o hj ho=>?_,h2⟩;by_cases hji:j=i
     ·subst hji;simp[hlt]at ho;subst ho;rw[hd];simp[hne]
     ·exact h1 j o (by omega) ho
def qX(heaps:Nat->AH)(tch:Nat->List Nat)(t k:Nat):Prop:=((heaps t).next<=k/\k<(heaps (t+1)).next)\/k∈tch t
theorem aKq(ht:nL C lo sz ops vals heaps envs seen tch){t k:Nat}(hts:t<ops.size)(h:qX heaps tch t k):k<(heaps (t+1)).next:=by
 rcases h with h|h;· exact h.2
 ·obtain⟨_,hs,_⟩:=ht t ops[t] (by simp[hts]);rcases hs with ⟨_,_,_,_,g⟩|⟨_,_,_,_,g,_⟩|⟨_,_,V,H2,l,vis,_,_,_,g,_,h1,h2,_⟩
  ·rw[g]at h;simp at h
  ·rw[g]at h;simp at h
  ·have:=(g k h).2.1;omega
theorem aSx(ht:nL C lo sz ops vals heaps envs seen tch){t:Nat}(hts:t<ops.size){x:Nat×qQ}(h:¬qX heaps tch t x.1):
  (x∈(heaps (t+1)).objs->x∈(heaps t).objs)/\(x.1<(heaps t).next->x∈(heaps t).objs->x∈(heaps (t+1)).objs):=by
 obtain⟨_,hs,_⟩:=ht t ops[t] (by simp[hts]);rcases hs with ⟨_,_,g,_⟩|⟨_,_,g,_⟩|⟨_,_,V,H2,l,vis,_,_,_,_,_,_,h2,h3,_⟩;· rw[g];exact⟨λh=>h,λ_ h=>h⟩
 ·rw[g];exact⟨λh=>h,λ_ h=>h⟩
 ·refine⟨λhx=>?_,λhl hx=>(h3 x).2 (.inr ⟨hx,λg=>h (.inr g),hl⟩)⟩;rcases(h3 x).1 hx with ⟨_,g⟩|⟨g,_⟩
  ·rw[<-h2]at g;exact absurd g h
  ·exact g
theorem aG6(ht:nL C lo sz ops vals heaps envs seen tch){x:Nat×qQ}{a:Nat}:∀d,a+d<=ops.size->(∀t,a<=t->t<a+d->¬qX heaps tch t x.1)->x∈(heaps (a+d)).objs->x∈(heaps a).objs
 |0,_,_,h=>h
 |d+1,hd,hn,h=>aG6 ht d (by omega) (λt h1 h2=>hn t h1 (by omega)) ((aSx ht (t:=a+d) (by omega) (hn _ (by omega) (by omega))).1 h)
theorem aQ6(ht:nL C lo sz ops vals heaps envs seen tch){x:Nat×qQ}{a:Nat}(hl:x.1<(heaps a).next):∀d,a+d<=ops.size->(∀t,a<=t->t<a+d->¬qX heaps tch t x.1)->x∈(heaps a).objs->x∈(heaps (a+d)).objs
 |0,_,_,h=>h
 |d+1,hd,hn,h=>(aSx ht (t:=a+d) (by omega) (hn _ (by omega) (by omega))).2 (Nat.lt_of_lt_of_le hl (aKr ht d a (by omega))) (aQ6 ht hl d (by omega) (λt h1 h2=>hn t h1 (by omega)) h)
theorem uS(ht:nL C lo sz ops vals heaps envs seen tch){x:Nat×qQ}{a b:Nat}(hab:a<=b)(hb:b<=ops.size)(hn:∀t,a<=t->t<b->¬qX heaps tch t x.1)(h:x∈(heaps b).objs):x∈(heaps a).objs:=
 aG6 ht (b-a) (by omega) (λt h1 h2=>hn t h1 (by omega)) (by rw[show a+(b-a)=b by omega];exact h)
theorem zF(ht:nL C lo sz ops vals heaps envs seen tch){x:Nat×qQ}{a b:Nat}(hab:a<=b)(hb:b<=ops.size)(hl:x.1<(heaps a).next)(hn:∀t,a<=t->t<b->¬qX heaps tch t x.1)(h:x∈(heaps a).objs):x∈(heaps b).objs:=by have:=aQ6 ht hl (b-a) (by omega) (λt h1 h2=>hn t h1 (by omega)) h;rwa[show a+(b-a)=b by omega]at this
theorem aAl(ht:nL C lo sz ops vals heaps envs seen tch){t u k:Nat}(h0:t<ops.size)(h0':u<ops.size)(h1:(heaps t).next<=k)(h2:k<(heaps (t+1)).next)(h3:(heaps u).next<=k)(h4:k<(heaps (u+1)).next):t=u:=by
 rcases Nat.lt_trichotomy t u with g|g|g;· have:=kD ht (show t+1<=u by omega) (by omega);omega
 ·exact g
 ·have:=kD ht (show u+1<=t by omega) (by omega);omega
def bHa(ops:Array X9)(heaps:Nat->AH)(tch:Nat->List Nat)(listed:Array Bool)(k t:Nat):Prop:=
 t<ops.size/\listed.getD t true=true/\qX heaps tch t k/\∀t',t<t'->t'<ops.size->listed.getD t' true=true->¬qX heaps tch t' k
def NoT(ops:Array X9)(heaps:Nat->AH)(tch:Nat->List Nat)(listed:Array Bool)(k:Nat):Prop:=∀t,t<ops.size->listed.getD t true=true->¬qX heaps tch t k
def bYf(ops:Array X9)(heaps:Nat->AH)(tch:Nat->List Nat)(listed:Array Bool)(x:Nat×qQ):Prop:=
 (∃t,bHa ops heaps tch listed x.1 t/\x∈(heaps (t+1)).objs)\/(NoT ops heaps tch listed x.1/\x∈(heaps 0).objs)
structure DS(lo sz:Nat)(ops:Array X9)(vals:Nat->V9)(heaps:Nat->AH)(envs:Nat->Env)(tch:Nat->List Nat)(ρ0:Map)(w0:W9)(df:List Deferred)(ρ:Map)(O:dF)(listed:Array Bool)(a:Act)(w:W9):Prop where
 len:listed.size=ops.size
 cl:∀(i:Nat) o,ops[i]?=some o->listed.getD i true=true->∀e∈o.after,Region.binds .any e=true->listed.getD e.on false=true
 obj:∀x,x∈O↔bYf ops heaps tch listed x
 nx:Next lo ρ0 (heaps 0) w0 ρ ⟨(heaps ops.size).next,O⟩ w
 non:∀t,t<ops.size->listed.getD t true=false->∀k,(heaps t).next<=k->k<(heaps (t+1)).next->ρ k=none
 hasL:∀x,x∈O->∀t,bHa ops heaps tch listed x.1 t->∀s,ρ x.1=some s->yW (cut ρ (heaps (t+1)).next) x.2 s w
 has0:∀x,x∈O->NoT ops heaps tch listed x.1->∀s,ρ x.1=some s->yW (cut ρ (heaps 0).next) x.2 s w
 envA:∀(i:Nat) o t,ops[i]?=some o->o.dst=some t->listed.getD i true=true->∃v',a.tmps[t]?=some v'/\dW (cut ρ (heaps (i+1)).next) (vals i) v'
 envB:∀t,(∀(i:Nat) o,ops[i]?=some o->o.dst=some t->listed.getD i true=false)->∀u,rZ t (envs 0)=some u->∃v',a.tmps[t]?=some v'/\dW ρ0 u v'
 sz:a.tmps.size=sz
 df:a.defers=df
theorem kU{listed:Array Bool}{i j:Nat}(hi:i<listed.size)(d:Bool):(listed.setIfInBounds i true).getD j d=if j=i then true else listed.getD j d:=by
 by_cases h:j=i;· subst h;simp[hi]
 ·rw[getD_set_ne d (Ne.symm h),if_neg h]
theorem aL7{listed:Array Bool}{j:Nat}(h:listed.getD j false=true):listed.getD j true=true:=by
 rcases Nat.lt_or_ge j listed.size with g|g;· simp[g]at h⊢;exact h
 ·simp[Array.getD,Nat.not_lt.2 g]at h
theorem aU3{listed:Array Bool}{j:Nat}(hj:j<listed.size)(h:listed.getD j true=true):listed.getD j false=true:=by simp[hj]at h⊢;exact h
section
variable{ρ0:Map}{w0 w:W9}{df:List Deferred}{ρ:Map}{O:dF}{listed:Array Bool}{a:Act}
theorem DS.bits(hd:DS lo sz ops vals heaps envs tch ρ0 w0 df ρ O listed a w){i:Nat}{o:X9}(ho:ops[i]?=some o)(hpre:∀e∈o.after,Region.binds .any e=true->listed.getD e.on false=true){j:Nat}(hj:Nat.testBit ((aAe ops).getD i 0) j=true):listed.getD j true=true:=
 aVi (S:=λj=>listed.getD j true=true) (λi o ho hl e he hb=>aL7 (hd.cl i o ho hl e (by simpa using he) hb)) ho (λe he hb=>aL7 (hpre e (by simpa using he) hb)) hj
theorem DS.behind(hd:DS lo sz ops vals heaps envs tch ρ0 w0 df ρ O listed a w){i j:Nat}{oj:X9}(hun:listed.getD i true=false)(hj:ops[j]?=some oj)(hb:Nat.testBit ((aAe ops).getD j 0) i=true):listed.getD j true=false:=by
 cases hl:listed.getD j true with
 |false=>rfl
 |true=>have:=hd.bits hj (hd.cl j oj hj hl) hb;rw[this]at hun;cases hun
theorem DS.reads(ht:nL C lo sz ops vals heaps envs seen tch)(hi0:Inv ρ0 (heaps 0) w0)(hok:∀(i j:Nat) oi oj,i<j->ops[i]?=some oi->ops[j]?=some oj->aAh ops i oi oj ((aAe ops).getD j 0)=true)(hd:DS lo sz ops vals heaps envs tch ρ0 w0 df ρ O listed a w){i:Nat}{o:X9}(ho:ops[i]?=some o)(hun:listed.getD i true=false)(hpre:∀e∈o.after,Region.binds .any e=true->listed.getD e.on false=true):fW (cut ρ (heaps i).next) (lB (envs i) (jS ops o)) a.tmps:=by
 intro t u hu;obtain⟨hmem,hget⟩:=aBf hu;have hlt:i<ops.size:=(Array.getElem?_eq_some_iff.1 ho).1;have hin:(jS ops o).any (Nat.beq t)=true:=List.any_eq_true.2 ⟨t,hmem,by simp⟩;rcases aF1 ht t i (by omega) with ⟨j,oj,h1,h2,h3,h4⟩|⟨h1,h2⟩;· rw[hget]at h4;cases h4;have:=hok j i oj o h1 h2 ho;unfold aAh at this;rw[h3]at this;simp only[B9]at this;have h2':=this.1.2;rw[hin]at h2';obtain⟨v',g1,g2⟩:=hd.envA j oj t h2 h3 (hd.bits ho hpre (by simpa using h2'));exact⟨v',g1,g2.mono (wX (λ_ _ h=>h) (kD ht (by omega) (by omega)))⟩
 ·rw[h2]at hget;obtain⟨v',g1,g2⟩:=hd.envB t (λj oj hj hdj=>by
   rcases Nat.lt_trichotomy j i with h|h|h;· exact absurd hdj (h1 j oj h hj)
   ·subst h;exact hun
   ·have:=hok i j o oj h ho hj;unfold aAh at this;rw[hdj]at this;simp only[B9]at this;have h2':=this.2;rw[hin]at h2';exact hd.behind hun hj (by simpa using h2')) u hget
  refine⟨v',g1,g2.mono λk q hk=>?_⟩;have hlt0:=hi0.lt hk;refine lM.2 ⟨Nat.lt_of_lt_of_le hlt0 (kD ht (Nat.zero_le _) (by omega)),?_⟩;rw[hd.nx.same k hlt0];exact hk
theorem DS.put(ht:nL C lo sz ops vals heaps envs seen tch)(hok:∀(i j:Nat) oi oj,i<j->ops[i]?=some oi->ops[j]?=some oj->aAh ops i oi oj ((aAe ops).getD j 0)=true)(hd:DS lo sz ops vals heaps envs tch ρ0 w0 df ρ O listed a w){i:Nat}{o:X9}(ho:ops[i]?=some o)(hun:listed.getD i true=false)(hpre:∀e∈o.after,Region.binds .any e=true->listed.getD e.on false=true){v':V9}{ρ':Map}{O':dF}{w':W9}(hv:dW (cut ρ' (heaps (i+1)).next) (vals i) v')(hρ:∀k q,ρ k=some q->ρ' k=some q)(obj:∀x,x∈O'↔bYf ops heaps tch (listed.setIfInBounds i true) x)(nx:Next lo ρ0 (heaps 0) w0 ρ' ⟨(heaps ops.size).next,O'⟩ w')(non:∀t,t<ops.size->(listed.setIfInBounds i true).getD t true=false->∀k,(heaps t).next<=k->k<(heaps (t+1)).next->ρ' k=none)(hasL:∀x,x∈O'->∀t,bHa ops heaps tch (listed.setIfInBounds i true) x.1 t->∀s,ρ' x.1=some s->yW (cut ρ' (heaps (t+1)).next) x.2 s w')(has0:∀x,x∈O'->NoT ops heaps tch (listed.setIfInBounds i true) x.1->∀s,ρ' x.1=some s->yW (cut ρ' (heaps 0).next) x.2 s w'):
  DS lo sz ops vals heaps envs tch ρ0 w0 df ρ' O' (listed.setIfInBounds i true) (a.put o.dst v') w':=by
 have hlt:i<listed.size:=by rw[hd.len];exact(Array.getElem?_eq_some_iff.1 ho).1
 have hdst:=(ht i o ho).1;refine
 {len:=by simp[hd.len]
  cl:=λj oj hj hl e he hb=>?_
  obj:=obj,nx:=nx,non:=non,hasL:=hasL,has0:=has0
  envA:=λj oj t hj hdj hl=>?_
  envB:=λt hno u hu=>?_
  sz:=by rw[aAi,hd.sz]
  df:=by rw[uG,hd.df] }
 ·rw[kU hlt]at hl;rw[kU hlt];split
  ·rfl
  ·by_cases hji:j=i
   ·subst hji;rw[ho]at hj;cases hj;exact hpre e he hb
   ·rw[if_neg hji]at hl;exact hd.cl j oj hj hl e he hb
 ·rw[kU hlt]at hl;by_cases hji:j=i
  ·subst hji;rw[ho]at hj;cases hj;unfold aCu at hdst;rw[hdj]at hdst;simp only[Nat.blt_eq]at hdst;refine⟨v',?_,hv⟩;have:t<a.tmps.size:=by rw[hd.sz];exact hdst
   simp[Act.put,hdj,this]
  ·rw[if_neg hji]at hl;obtain⟨u',h1,h2⟩:=hd.envA j oj t hj hdj hl;refine⟨u',?_,h2.mono (wX hρ (L9 _))⟩;cases hdo:o.dst with
   |none=>exact h1
   |some d=>
    have hne:d≠t:=λe=>by
     subst e;rcases Nat.lt_or_gt_of_ne hji with h|h;· have:=hok j i oj o h hj ho;simp[aAh,hdj,hdo]at this
     ·have:=hok i j o oj h ho hj;simp[aAh,hdj,hdo]at this
    simp only[Act.put];rw[Array.getElem?_setIfInBounds_ne hne];exact h1
 ·have hi:=hno i o ho;have hne:o.dst≠some t:=λe=>by have:=hi e;rw[kU hlt,if_pos rfl]at this;cases this
  obtain⟨u',h1,h2⟩:=hd.envB t (λj oj hj hdj=>by
   have:=hno j oj hj hdj;rw[kU hlt]at this;split at this;· cases this
   ·exact this) u hu
  refine⟨u',?_,h2⟩;cases hdo:o.dst with
  |none=>exact h1
  |some d=>
   have:d≠t:=λe=>hne (by rw[hdo,e])
   simp only[Act.put];rw[Array.getElem?_setIfInBounds_ne this];exact h1
end
theorem aOx{P:Nat->Prop}:∀n:Nat,(∃t,t<n/\P t/\∀t',t<t'->t'<n->¬P t')\/∀t,t<n->¬P t
 |0=>.inr λt h=>by omega
 |n+1=>by
  rcases Classical.em (P n) with h|h;· exact .inl ⟨n,by omega,h,λt' h1 h2=>by omega⟩
  ·rcases aOx n with ⟨t,h1,h2,h3⟩|h1
   ·refine .inl ⟨t,by omega,h2,λt' h4 h5=>?_⟩;rcases Nat.lt_or_ge t' n with g|g
    ·exact h3 t' h4 g
    ·have:t'=n:=by omega
     subst this;exact h
   ·refine .inr λt h2=>?_
    rcases Nat.lt_or_ge t n with g|g;· exact h1 t g
    ·have:t=n:=by omega
     subst this;exact h
theorem aKk{l:Array Bool}{i u:Nat}(hi:i<l.size)(h:l.getD u true=true):(l.setIfInBounds i true).getD u true=true:=by
 rw[kU hi];split;· rfl
 ·exact h
theorem aV4(hdraw:aLu ops=true)(ht:nL C lo sz ops vals heaps envs seen tch){ρ0:Map}{w0:W9}{df:List Deferred}(hi:Inv ρ0 (heaps 0) w0)(hlo:lo<=(heaps 0).next){Q:Exit->Act->W9->Prop}(hQ:∀ρ' a' w',Next lo ρ0 (heaps 0) w0 ρ' (heaps ops.size) w'->fW ρ' (envs ops.size) a'.tmps->a'.tmps.size=sz->a'.defers=df->Q .normal a' w'):
  ∀(fuel:Nat)(ρ:Map)(O:dF)(listed:Array Bool)(a:Act)(w:W9)(S:List Nat),DS lo sz ops vals heaps envs tch ρ0 w0 df ρ O listed a w->S.length<=fuel->(∀i,i<ops.size->listed.getD i true=false->i∈S)->
   wpAny C.P .any ops Q fuel listed a w:=by
 obtain⟨hedge,hok⟩:=aOh hdraw;have fin:∀(ρ:Map)(O:dF)(listed:Array Bool)(a:Act)(w:W9),DS lo sz ops vals heaps envs tch ρ0 w0 df ρ O listed a w->(∀i,i<ops.size->listed.getD i true=true)->Q .normal a w:=by
  intro ρ O listed a w hd hall;have hO:∀x,x∈(heaps ops.size).objs↔x∈O:=λx=>by
   rw[hd.obj x];constructor
   ·intro hx;rcases aOx (P:=λt=>qX heaps tch t x.1) ops.size with ⟨t,h1,h2,h3⟩|h1
    ·exact .inl ⟨t,⟨h1,hall t h1,h2,λt' h4 h5 _=>h3 t' h4 h5⟩,uS ht (by omega) (L9 _) (λu h4 h5=>h3 u (by omega) h5) hx⟩
    ·exact .inr ⟨λt h2 _=>h1 t h2,uS ht (Nat.zero_le _) (L9 _) (λu _ h5=>h1 u h5) hx⟩
   ·rintro (⟨t,⟨h1,_,h2,h3⟩,hx⟩|⟨h1,hx⟩)
    ·exact zF ht (by omega) (L9 _) (aKq ht h1 h2) (λu h4 h5=>h3 u (by omega) h5 (hall u h5)) hx
    ·exact zF ht (Nat.zero_le _) (L9 _) (hi.wf x.1 x.2 hx) (λu _ h5=>h1 u h5 (hall u h5)) hx
  have hN:Next lo ρ0 (heaps 0) w0 ρ (heaps ops.size) w:=hd.nx.objs (kD ht (Nat.zero_le _) (L9 _)) hd.nx.inv.dom hO (λx hx=>hd.nx.inv.wf x.1 x.2 ((hO x).1 hx));refine hQ ρ a w hN (λt u hu=>?_) hd.sz hd.df;rcases aF1 ht t ops.size (L9 _) with ⟨j,oj,h1,h2,h3,h4⟩|⟨h1,h2⟩;· rw[hu]at h4;cases h4;obtain⟨v',g1,g2⟩:=hd.envA j oj t h2 h3 (hall j h1);exact⟨v',g1,g2.mono (bRu λ_ _ _ h=>h)⟩
  ·rw[h2]at hu;obtain⟨v',g1,g2⟩:=hd.envB t (λj oj hj hdj=>absurd hdj (h1 j oj (Array.getElem?_eq_some_iff.1 hj).1 hj)) u hu;exact⟨v',g1,g2.mono (hN.ext hi)⟩
 have allOf:∀(ρ:Map)(O:dF)(listed:Array Bool)(a:Act)(w:W9),DS lo sz ops vals heaps envs tch ρ0 w0 df ρ O listed a w->Region.ready .any ops listed=[]->∀i,i<ops.size->listed.getD i true=true:=by
  intro ρ O listed a w hd hr i;induction i using Nat.strongRecOn with
  |_ i ih=>
   intro hlt;cases hl:listed.getD i true with
   |true=>rfl
   |false=>
    have:i∈Region.ready .any ops listed:=mem_ready.2 ⟨hl,ops[i],by simp[hlt],λe he hb=>by have hlt':=hedge i ops[i] (by simp[hlt]) e he hb;exact aU3 (by rw[hd.len];omega) (ih e.on hlt' (by omega))⟩;rw[hr]at this;cases this
 intro fuel;induction fuel with
 |zero=>
  intro ρ O listed a w S hd hS hun;have:S=[]:=List.length_eq_zero_iff.1 (by omega);subst this;have hall:∀i,i<ops.size->listed.getD i true=true:=λi hi=>by
   cases hl:listed.getD i true with
   |true=>rfl
   |false=>exact absurd (hun i hi hl) (by simp)
  refine⟨?_,fin ρ O listed a w hd hall⟩;cases hr:Region.ready .any ops listed with
  |nil=>rfl
  |cons i r=>
   have hm:i∈Region.ready .any ops listed:=by rw[hr];simp
   obtain⟨h1,o,ho,_⟩:=mem_ready.1 hm;rw[hall i (Array.getElem?_eq_some_iff.1 ho).1]at h1;cases h1
 |succ fuel ih=>
  intro ρ O listed a w S hd hS hun;refine⟨λhr=>fin ρ O listed a w hd (allOf ρ O listed a w hd hr),λi hir=>?_⟩;obtain⟨hl,o,ho,hpre⟩:=mem_ready.1 hir;have hlt:i<ops.size:=(Array.getElem?_eq_some_iff.1 ho).1;have hlt':i<listed.size:=by rw[hd.len];exact hlt
  have hread:=hd.reads ht hi hok ho hl hpre;obtain⟨hdst,hstep,_⟩:=ht i o ho;have hni:=aHx ht hlt;have hn0:=kD ht (Nat.zero_le i) (by omega);have hnz:=kD ht (show i+1<=ops.size by omega) (L9 _);have hnext:∀(ρ':Map)(O':dF)(a':Act)(w':W9),DS lo sz ops vals heaps envs tch ρ0 w0 df ρ' O' (listed.setIfInBounds i true) a' w'->wpAny C.P .any ops Q fuel (listed.setIfInBounds i true) a' w':=by
   intro ρ' O' a' w' hd';have hiS:=hun i hlt hl;refine ih ρ' O' _ a' w' (S.erase i) hd' (by rw[List.length_erase_of_mem hiS];omega) λj hj hlj=>?_
   rw[kU hlt']at hlj;split at hlj;· cases hlj
   ·rename_i hne;exact(List.mem_erase_of_ne hne).2 (hun j hj hlj)
  have noneR:∀k,(heaps i).next<=k->k<(heaps (i+1)).next->ρ k=none:=λk h1 h2=>hd.non i hlt hl k h1 h2
  have after:∀k,qX heaps tch i k->∀t,i<t->t<ops.size->listed.getD t true=true->¬qX heaps tch t k:=λk hk t h1 h2 h3 h4=>by
   obtain⟨_,hst,_⟩:=ht t ops[t] (by simp[h2]);have hbit:Nat.testBit ((aAe ops).getD t 0) i=false:=by
    cases hb:Nat.testBit ((aAe ops).getD t 0) i with
    |false=>rfl
    |true=>have:=hd.behind hl (j:=t) (oj:=ops[t]) (by simp[h2]) hb;rw[this]at h3;cases h3
   rcases h4 with h4|h4
   ·rcases hk with hk|hk
    ·have:=aAl ht hlt h2 hk.1 hk.2 h4.1 h4.2;omega
    ·have:=aKq ht hlt (.inr hk);have:=kD ht (show i+1<=t by omega) (by omega);omega
   ·rcases hst with ⟨_,_,_,_,g⟩|⟨_,_,_,_,g,_⟩|⟨_,_,V,H2,l,vis,g1,_,_,g2,g3,_⟩
    ·rw[g]at h4;simp at h4
    ·rw[g]at h4;simp at h4
    ·rcases hk with hk|hk
     ·rcases g1 k (g2 k h4).2.2 with q|⟨u,q1,q2,q3,q4⟩
      ·omega
      ·have:=aAl ht hlt (by omega) hk.1 hk.2 q3 q4;subst this;rw[hbit]at q2;cases q2
     ·have hsee:aV9 (seen i) k:=by
       rcases hstep with ⟨_,_,_,_,g⟩|⟨_,_,_,_,g,_⟩|⟨_,_,_,_,_,_,_,_,_,q,_⟩;· rw[g]at hk;simp at hk
       ·rw[g]at hk;simp at hk
       ·exact(q k hk).1
      exact(g3 i h1 hbit).2 k h4 hsee
  have lastI:∀k,qX heaps tch i k->bHa ops heaps tch (listed.setIfInBounds i true) k i:=λk hk=>by refine⟨hlt,by rw[kU hlt',if_pos rfl],hk,λt h1 h2 h3=>?_⟩;rw[kU hlt',if_neg (by omega)]at h3;exact after k hk t h1 h2 h3
  have lastN:∀k,¬qX heaps tch i k->∀t,bHa ops heaps tch (listed.setIfInBounds i true) k t↔bHa ops heaps tch listed k t:=λk hk t=>by
   constructor
   ·rintro ⟨h1,h2,h3,h4⟩
    have hne:t≠i:=λe=>by subst e;exact hk h3
    rw[kU hlt',if_neg hne]at h2;exact⟨h1,h2,h3,λu g1 g2 g3=>h4 u g1 g2 (aKk hlt' g3)⟩
   ·rintro ⟨h1,h2,h3,h4⟩
    refine⟨h1,aKk hlt' h2,h3,λu g1 g2 g3=>?_⟩;rw[kU hlt']at g3;split at g3;· rename_i e;subst e;exact hk
    ·exact h4 u g1 g2 g3
  have noN:∀k,¬qX heaps tch i k->(NoT ops heaps tch (listed.setIfInBounds i true) k↔NoT ops heaps tch listed k):=λk hk=>by
   constructor;· intro h t h1 h2;exact h t h1 (aKk hlt' h2)
   ·intro h t h1 h2;rw[kU hlt']at h2;split at h2
    ·rename_i e;subst e;exact hk
    ·exact h t h1 h2
  have noI:∀k,qX heaps tch i k->¬NoT ops heaps tch (listed.setIfInBounds i true) k:=λk hk h=>h i hlt (by rw[kU hlt',if_pos rfl]) hk
  have lastEq:∀k,qX heaps tch i k->∀t,bHa ops heaps tch (listed.setIfInBounds i true) k t->t=i:=λk hk t h=>by
   have hI:=lastI k hk;rcases Nat.lt_trichotomy t i with g|g|g;· exact absurd hk (h.2.2.2 i g hlt hI.2.1)
   ·exact g
   ·exact absurd h.2.2.1 (hI.2.2.2 t g h.1 h.2.1)
  have go:∀(V:dF)(H2:AH)(lo':Nat)(ρ1:Map)(w':W9)(v':V9),(∀x,x∈V->x∈O/\x.1<(heaps i).next)->((lo'=lo/\∀x,x∈V->x.1∈tch i)\/(lo'=(heaps i).next/\tch i=[]))->
    (∀k,k∈tch i->k<(heaps i).next/\∀o,(k,o)∈O->(k,o)∈V)->Next lo' (cut ρ (heaps i).next) ⟨(heaps i).next,V⟩ w ρ1 H2 w'->H2.next=(heaps (i+1)).next->dW ρ1 (vals i) v'->
    (∀x,qX heaps tch i x.1->(x∈(heaps (i+1)).objs↔x∈H2.objs))->wpAny C.P .any ops Q fuel (listed.setIfInBounds i true) (a.put o.dst v') w':=by
   intro V H2 lo' ρ1 w' v' hV hl2 hT n1 hn2 hv hobj
   let O':dF:=(H2.objs.filter λx=>decide (((heaps i).next<=x.1/\x.1<(heaps (i+1)).next)\/x.1∈tch i))++O.filter λx=>decide (x.1∉tch i)
   have hO':∀x,x∈O'↔(x∈H2.objs/\(((heaps i).next<=x.1/\x.1<(heaps (i+1)).next)\/x.1∈tch i))\/(x∈O/\x.1∉tch i):=λx=>by simp only[O',List.mem_append,List.mem_filter,decide_eq_true_eq]
   obtain⟨ρ',a1,a2,a3,a4,a5,a6⟩:=bJ6 hd.nx hn0 hni hnz hlo hV hl2 hT noneR n1 hn2 hO';have notO:∀x,x∈O->x.1∉tch i->¬qX heaps tch i x.1:=λx hx hn hT2=>by
    rcases hT2 with h|h;· obtain⟨s,e1,_⟩:=hd.nx.inv.rel.obj x.1 x.2 hx;rw[noneR x.1 h.1 h.2]at e1;cases e1
    ·exact hn h
   refine hnext ρ' O' _ w' (hd.put ht hok ho hl hpre ?_ a2 (λx=>?_) a1 (λt h0 h1 k h2 h3=>?_) (λx hx t hL s hs=>?_) (λx hx hN s hs=>?_));· exact hv.mono λk q hk=>lM.2 ⟨by rw[<-hn2];exact n1.inv.lt hk,a3 k q hk⟩
   ·rw[hO' x];constructor
    ·rintro (⟨h1,h2⟩|⟨h1,h2⟩)
     ·exact .inl ⟨i,lastI x.1 h2,(hobj x h2).2 h1⟩
     ·have hnt:=notO x h1 h2;rcases(hd.obj x).1 h1 with ⟨t,g1,g2⟩|⟨g1,g2⟩
      ·exact .inl ⟨t,(lastN x.1 hnt t).2 g1,g2⟩
      ·exact .inr ⟨(noN x.1 hnt).2 g1,g2⟩
    ·rcases Classical.em (qX heaps tch i x.1) with hT2|hT2
     ·rintro (⟨t,g1,g2⟩|⟨g1,g2⟩)
      ·have:=lastEq x.1 hT2 t g1;subst this;exact .inl ⟨(hobj x hT2).1 g2,hT2⟩
      ·exact absurd g1 (noI x.1 hT2)
     ·rintro (⟨t,g1,g2⟩|⟨g1,g2⟩)
      ·exact .inr ⟨(hd.obj x).2 (.inl ⟨t,(lastN x.1 hT2 t).1 g1,g2⟩),λh=>hT2 (.inr h)⟩
      ·exact .inr ⟨(hd.obj x).2 (.inr ⟨(noN x.1 hT2).1 g1,g2⟩),λh=>hT2 (.inr h)⟩
   ·rw[kU hlt']at h1;by_cases hti:t=i
    ·rw[if_pos hti]at h1;cases h1
    ·rw[if_neg hti]at h1;rw[a4 k λg=>hti (aAl ht h0 hlt h2 h3 g.1 g.2)];exact hd.non t h0 h1 k h2 h3
   ·rcases(hO' x).1 hx with ⟨h1,h2⟩|⟨h1,h2⟩
    ·have:=lastEq x.1 h2 t hL;subst this;obtain⟨s',e1,e2⟩:=n1.inv.rel.obj x.1 x.2 h1;have e3:=a3 _ _ e1;rw[hs]at e3;cases e3;exact e2.mono λk q hk=>lM.2 ⟨by rw[<-hn2];exact n1.inv.lt hk,a3 k q hk⟩
    ·have hnt:=notO x h1 h2;have hs':ρ x.1=some s:=by rw[a4 x.1 λg=>hnt (.inl g)]at hs;exact hs
     have e:=hd.hasL x h1 t ((lastN x.1 hnt t).1 hL) s hs';exact(e.mono (wX a2 (L9 _))).heap (a6 x s h1 h2 hs')
   ·rcases(hO' x).1 hx with ⟨h1,h2⟩|⟨h1,h2⟩
    ·exact absurd hN (noI x.1 h2)
    ·have hnt:=notO x h1 h2;have hs':ρ x.1=some s:=by rw[a4 x.1 λg=>hnt (.inl g)]at hs;exact hs
     have e:=hd.has0 x h1 ((noN x.1 hnt).1 hN) s hs';exact(e.mono (wX a2 (L9 _))).heap (a6 x s h1 h2 hs')
  have invV:∀V:dF,(∀x,x∈V->x∈O/\x.1<(heaps i).next/\∀s,ρ x.1=some s->yW (cut ρ (heaps i).next) x.2 s w)->Inv (cut ρ (heaps i).next) ⟨(heaps i).next,V⟩ w:=λV hV=>
   ⟨λk hk=>by
     cases hc:cut ρ (heaps i).next k with
     |none=>rfl
     |some s=>have:=(lM.1 hc).1;simp only at hk;omega,
    λk o' hm'=>(hV _ hm').2.1,
    λk o' o'' h1 h2=>hd.nx.inv.one k o' o'' (hV _ h1).1 (hV _ h2).1,
    ⟨λk o' hm'=>by
     obtain⟨q1,q2,q3⟩:=hV _ hm';obtain⟨s,e1,e2⟩:=hd.nx.inv.rel.obj k o' q1;exact⟨s,lM.2 ⟨q2,e1⟩,q3 s e1⟩,
     λk o' k' o'' s s' h1 h2 h3 h4 h5=>hd.nx.inv.rel.inj k o' k' o'' s s' (hV _ h1).1 (hV _ h2).1 (lM.1 h3).2 (lM.1 h4).2 h5⟩⟩
  unfold wpOp;rw[ho];simp only;rcases hstep with ⟨hwant,hv,hh,hse,hte⟩|⟨hwant,hw,hh,hse,hte,H2,hH2,hop⟩|⟨hwant,hw,V,H2,lo',vis,hvis,hV,hlo',htch,hpair,hle,hH2,hobj,hop⟩
  ·rw[if_neg (by rw[oD hwant hread];exact Bool.false_ne_true)];have nt:∀k,¬qX heaps tch i k:=λk h=>by
    rcases h with h|h;· rw[hh]at h;omega
    ·rw[hte]at h;simp at h
   refine hnext ρ O _ w (hd.put ht hok ho hl hpre (by rw[hv];exact .tuple .nil) (λ_ _ h=>h) (λx=>?_) hd.nx (λt h0 h1 k h2 h3=>?_) (λx hx t hL s hs=>hd.hasL x hx t ((lastN x.1 (nt _) t).1 hL) s hs) (λx hx hN s hs=>hd.has0 x hx ((noN x.1 (nt _)).1 hN) s hs));· rw[hd.obj x];unfold bYf;rw[noN x.1 (nt _)];simp only[lastN x.1 (nt _)]
   ·rw[kU hlt']at h1;split at h1
    ·cases h1
    ·exact hd.non t h0 h1 k h2 h3
  ·rw[if_pos (oD hwant hread)];have hinv':=invV [] (λx hx=>by simp at hx);refine .inl (hop hinv' hread _ Q λρ1 w' v' n1 n2=>?_);refine go [] H2 (heaps i).next ρ1 w' v' (λx hx=>by simp at hx) (.inr ⟨rfl,hte⟩) (λk hk=>by rw[hte]at hk;simp at hk) n1 (by rw[hh];exact hH2) n2 (λx hT=>?_);rcases hT with h|h
   ·rw[hh]at h;omega
   ·rw[hte]at h;simp at h
  ·rw[if_pos (oD hwant hread)];have klt:∀k,vis k->k<(heaps i).next:=λk hk=>by
    rcases hvis k hk with g|⟨t,q1,q2,q3,q4⟩;· omega
    ·have:=kD ht (show t+1<=i by omega) (by omega);omega
   have before:∀k,aV9 (seen i) k->vis k->∀t,t<i->qX heaps tch t k->listed.getD t true=true:=λk hs hk t h1 h2=>by
    rcases h2 with h2|h2
    ·rcases hvis k hk with g|⟨u,q1,q2,q3,q4⟩
     ·have:=kD ht (Nat.zero_le t) (by omega);omega
     ·have:=aAl ht (by omega) (by omega) h2.1 h2.2 q3 q4;subst this;exact hd.bits ho hpre q2
    ·cases hb:Nat.testBit ((aAe ops).getD i 0) t with
     |true=>exact hd.bits ho hpre hb
     |false=>exact absurd hs ((hpair t h1 hb).1 k h2)
   have behind:∀k,aV9 (seen i) k->vis k->∀t,i<t->t<ops.size->listed.getD t true=true->¬qX heaps tch t k:=λk hs hk t h1 h2 h3 h4=>by
    rcases h4 with h4|h4;· have:=klt k hk;have:=kD ht (show i<=t by omega) (by omega);omega
    ·obtain⟨_,hst,_⟩:=ht t ops[t] (by simp[h2]);rcases hst with ⟨_,_,_,_,g⟩|⟨_,_,_,_,g,_⟩|⟨_,_,V,H2,l,vis,_,_,_,_,g3,_⟩
     ·rw[g]at h4;simp at h4
     ·rw[g]at h4;simp at h4
     ·cases hb:Nat.testBit ((aAe ops).getD t 0) i with
      |true=>have:=hd.behind hl (j:=t) (oj:=ops[t]) (by simp[h2]) hb;rw[this]at h3;cases h3
      |false=>exact(g3 i h1 hb).2 k h4 hs
   have canon:∀x,aV9 (seen i) x.1->vis x.1->(x∈O↔x∈(heaps i).objs)/\(x∈O->∀s,ρ x.1=some s->yW (cut ρ (heaps i).next) x.2 s w):=λx hs hk=>by
    rcases aOx (P:=λt=>qX heaps tch t x.1) i with ⟨t,h1,h2,h3⟩|h1
    ·have hL:bHa ops heaps tch listed x.1 t:=⟨by omega,before x.1 hs hk t h1 h2,h2,λt' g1 g2 g3=>by
      rcases Nat.lt_trichotomy t' i with q|q|q;· exact h3 t' g1 q
      ·subst q;rw[hl]at g3;cases g3
      ·exact behind x.1 hs hk t' q g2 g3⟩
     refine⟨⟨λhx=>?_,λhx=>(hd.obj x).2 (.inl ⟨t,hL,uS ht (by omega) (by omega) (λu g1 g2=>h3 u (by omega) g2) hx⟩)⟩,λhx s hs2=>?_⟩
     ·rcases(hd.obj x).1 hx with ⟨u,g1,g2⟩|⟨g1,_⟩
      ·have:u=t:=by
        rcases Nat.lt_trichotomy u t with q|q|q;· exact absurd h2 (g1.2.2.2 t q hL.1 hL.2.1)
        ·exact q
        ·exact absurd g1.2.2.1 (hL.2.2.2 u q g1.1 g1.2.1)
       subst this;exact zF ht (by omega) (by omega) (aKq ht (by omega) h2) (λv g3 g4=>h3 v (by omega) g4) g2
      ·exact absurd h2 (g1 t hL.1 hL.2.1)
     ·exact(hd.hasL x hx t hL s hs2).mono (wX (λ_ _ h=>h) (kD ht (by omega) (by omega)))
    ·have hN:NoT ops heaps tch listed x.1:=λt g1 g2 g3=>by
      rcases Nat.lt_trichotomy t i with q|q|q;· exact h1 t q g3
      ·subst q;rw[hl]at g2;cases g2
      ·exact behind x.1 hs hk t q g1 g2 g3
     refine⟨⟨λhx=>?_,λhx=>(hd.obj x).2 (.inr ⟨hN,uS ht (Nat.zero_le _) (by omega) (λu _ g2=>h1 u g2) hx⟩)⟩,λhx s hs2=>?_⟩
     ·rcases(hd.obj x).1 hx with ⟨u,g1,g2⟩|⟨_,g2⟩
      ·exact absurd g1.2.2.1 (hN u g1.1 g1.2.1)
      ·exact zF ht (Nat.zero_le _) (by omega) (hi.wf x.1 x.2 g2) (λu _ g2=>h1 u g2) g2
     ·exact(hd.has0 x hx hN s hs2).mono (wX (λ_ _ h=>h) hn0)
   have hVO:∀x,x∈V->x∈O/\x.1<(heaps i).next/\∀s,ρ x.1=some s->yW (cut ρ (heaps i).next) x.2 s w:=λx hx=>by obtain⟨q1,q2,q3⟩:=(hV x).1 hx;obtain⟨c1,c2⟩:=canon x q2 q3;exact⟨c1.2 q1,klt x.1 q3,c2 (c1.2 q1)⟩
   refine .inl (hop (invV V hVO) (Nat.le_trans hlo hn0) hread _ Q λρ1 w' v' n1 n2=>?_);refine go V H2 lo' ρ1 w' v' (λx hx=>⟨(hVO x hx).1,(hVO x hx).2.1⟩) ?_ (λk hk=>⟨(htch k hk).2.1,λo' ho'=>?_⟩) n1 hH2.symm n2 (λx hT=>?_)
   ·rcases hlo' with ⟨h1,h2⟩|h1
    ·refine .inl ⟨h1,λx hx=>?_⟩;have:=((hV x).1 hx).2.1;rw[h2]at this;exact aDs.1 this
    ·exact .inr h1
   ·obtain⟨q1,q2,q3⟩:=htch k hk;exact(hV (k,o')).2 ⟨(canon (k,o') q1 q3).1.1 ho',q1,q3⟩
   ·rw[hobj x];constructor
    ·rintro (⟨g,_⟩|⟨_,g1,g2⟩)
     ·exact g
     ·rcases hT with h|h
      ·omega
      ·exact absurd h g1
    ·intro g;exact .inl ⟨g,by rw[<-hH2];exact hT⟩
end
theorem aVy{P:Q9}{fr:Frame}{cs:List Frame}{w w':W9}{b:u9}{ts:Array I9}{ty:I9}{cn:Array Bool}{args:Array V9}{ds:List Deferred}{v:V9}(hm:fr.mode=.returning)(hd:fr.defers={ target:=.builtin b ts ty cn,args:=args }::ds)(hi:(invoke (.builtin b ts ty cn) args).run P w=.ok (.value v) w'):
  step P (lone fr cs w)=.next (lone { fr with defers:=ds } cs w'):=by
 refine step_lone_go ?_;simp[stepG,unwind,callDeferred,hm,hd,hi]
def aVq(P:Q9)(fn:Func)(R:Ending->W9->Prop):Exit->Act->W9->Prop
 |.normal,a,w | .ret,a,w=>(a.defers=[]/\∃v,(results fn a.tmps).run P w=.ok v w/\R (.returned v) w)\/
   (∃b ts ty cn args v0 w1,a.defers=[{ target:=.builtin b ts ty cn,args:=args }]/\(invoke (.builtin b ts ty cn) args).run P w=.ok (.value v0) w1/\
    ∃v,(results fn a.tmps).run P w1=.ok v w1/\R (.returned v) w1)
 |_,_,_=>False
theorem mF{P:Q9}{f:FuncId}{fn:Func}{c:Code}{args:Array V9}{w:W9}{R:Ending->W9->Prop}(hf:P.funcs[f]?=some fn)(hb:fn.body=some c)(h:c.wp P (aVq P fn R) { tmps:=args++Array.replicate (fn.ntmps-args.size) undef,defers:=[] } w):Calls P f args w R:=by
 intro cs
 let b:Frame:={ (default:Frame) with fn:=f,kind:=.normal }
 have henter:Frame.enter P f args .normal =
   b.at { tmps:=args++Array.replicate (fn.ntmps-args.size) undef,defers:=[] } [.code c]:=by
  simp[Frame.enter,Frame.at,hf,hb,b]
 obtain⟨e,a',w',hq,harr⟩:=h b [] cs;rw[<-henter]at harr;have main:∀todo,Steps P (lone (Frame.enter P f args .normal) cs w) (lone { b.at a' todo with mode:=.returning } cs w')->aVq P fn R .normal a' w'->
   ∃e w' fr,R e w'/\Comes P (lone (Frame.enter P f args .normal) cs w) (lone fr cs w') e/\fr.fn=f/\fr.leaving P w' e:=by
  intro todo hs hq;rcases hq with ⟨hd,v,hr,hR⟩|⟨bb,ts,ty,cn,ar,v0,w1,hd,hi,v,hr,hR⟩;· exact⟨.returned v,w',_,hR,hs,rfl,rfl,hd,rfl,fn,hf,hr⟩
  ·have h1:=aVy (fr:={ b.at a' todo with mode:=.returning }) (cs:=cs) rfl hd hi;exact⟨.returned v,w1,_,hR,Steps.trans hs (.one h1),rfl,rfl,rfl,rfl,fn,hf,hr⟩
 cases e with
 |normal=>exact main [] (Steps.trans harr (.one step_end)) hq
 |ret=>obtain⟨todo,hs⟩:=harr;exact main todo hs hq
 |panic chain=>exact hq.elim
 |exit id=>exact hq.elim
 |goto l=>exact hq.elim
 |outgrown=>exact hq.elim
def bX5(z:V9):Bool:=match z with | .complex .f64 _ _ | .float .f64 _=>true|_=>false
def aB5{R:Type}(P:Q9)(lo:Nat)(H:AH)(t:I9)(v:V9)(k:AH->Option R):Option R:=
 match P.underlying t,v with
 |some (.slice e),.slice (some ad) n _=>
  bif Nat.beq n 0 then k H
  else(calm P (zeroValue e)).bind λz=>
   match aCg ad.block H.objs with
   |some (.cells cs sz)=>
    bif bX5 z&&Nat.ble lo ad.block&&ad.spot.isNone&&Nat.ble (ad.off+n) cs.length then k (H.put ad.block (.cells (splice cs ad.off (List.replicate n z)) sz)) else none
   |_=>none
 |_,_=>none
theorem bA1{ρ:Map}{z:V9}(hz:flat z=true):∀n,cF ρ (List.replicate n z) (List.replicate n z)
 |0=>.nil
 |n+1=>by rw[List.replicate_succ];exact .cons (dW.ofFlat ρ hz) (bA1 hz n)
theorem aB6{R:Type}{P:Q9}{lo:Nat}{H:AH}{t:I9}{v:V9}{k:AH->Option R}{r:R}(h:aB5 P lo H t v k=some r):
  ∃H',k H'=some r/\∀{ρ:Map}{w:W9}{v':V9}{ty:I9},Inv ρ H w->dW ρ v v'->
   ∃w' u,(u9.clear_ #[t] ty #[v']).run P w=.ok u w'/\Next lo ρ H w ρ H' w':=by
 unfold aB5 at h;split at h
 case h_2=>cases h
 rename_i e ad n c hu;cases hn:Nat.beq n 0 with
 |true=>
  rw[hn]at h;have hn':=gO hn;subst hn';refine⟨H,h,λ{ρ w v' ty} hi hv=>?_⟩;cases hv with
  |slice hs=>exact⟨w,.tuple #[],by simp[u9.clear_,run_underlying hu],Next.refl hi⟩
 |false=>
  rw[hn]at h;simp only[F7]at h;have hn':n≠0:=λq=>by subst q;cases hn
  obtain⟨z,hz,h'⟩:=aB h;clear h;split at h'
  case h_2=>cases h'
  rename_i cs sz hl;cases hb:(bX5 z&&Nat.ble lo ad.block&&ad.spot.isNone&&Nat.ble (ad.off+n) cs.length) with
  |false=>rw[hb]at h';cases h'
  |true=>
   rw[hb]at h';simp only[B9,Nat.ble_eq]at hb;obtain⟨⟨⟨b1,b2⟩,b3⟩,b4⟩:=hb;have hzz:z.cells=#[z]/\z.oneCell'=true/\flat z=true:=by
    unfold bX5 at b1;split at b1;· exact⟨rfl,rfl,rfl⟩
    ·exact⟨rfl,rfl,rfl⟩
    ·cases b1
   refine⟨_,h',λ{ρ w v' ty} hinv hv=>?_⟩;cases hv with
   |@slice ks os _ _ ss hss=>
    simp only at b2 b4;have hm0:=kS hl;obtain⟨s2,e1,e2⟩:=hinv.rel.obj ks _ hm0;rw[hss]at e1;cases e1;obtain⟨arr,tyo,cs',hlies,ar,ac,aext,ax0⟩:=e2;obtain⟨⟨fr,ab⟩,hz0⟩:=id hlies;have arl:=ar.length;have hcell:∀j,j<cs.length->∃u,arr[ss.d+j]?=some u:=λj hj=>by
     have hlt:j<cs'.length:=by omega
     exact⟨cs'[j],ac j _ (by simp[hlt])⟩
    have hrun:=Lib.run_clear_slice (P:=P) w t e ty z hu (λw=>bV hz w) hzz.1 hzz.2.1 ss.b (ss.d+os) n (c+ss.x) (by omega)
     (λj hj=>by
      obtain⟨u,hu'⟩:=hcell (os+j) (by omega);rw[show ss.d+os+j=ss.d+(os+j) by omega];simp[W9.cell?,ab,hu']) (λj hj=>by
      rw[show ss.d+os+j=ss.d+(os+j) by omega];exact hz0 _ (by omega))
    have g1:cF ρ (List.replicate n z) (List.replicate n z):=bA1 hzz.2.2 n;obtain⟨w1,w2,w3,w4,w5,w6⟩:=rK ss.b (List.replicate n z) (ss.d+os) w arr tyo fr ab;refine⟨_,_,hrun,Next.write hinv hm0 b2 hss _ w3 w4 w5 w6 w2 ⟨_,tyo,splice cs' os (List.replicate n z),hlies.put ab w1 rfl (by rw[rL (by simp;omega)];exact L9 _),ar.splice g1 os,λj v hv=>?_,?_,ax0⟩⟩
    ·rw[aB0 (by simp;omega)]at hv;rw[qZ];split at hv
     ·rename_i hin;have:ss.d+j<arr.size:=by obtain⟨u',hu'⟩:=hcell j (by simp at hin;omega);exact(Array.getElem?_eq_some_iff.1 hu').1
      rw[if_pos (by simp at hin⊢;omega),show ss.d+j-(ss.d+os)=j-os by omega];exact hv
     ·rename_i hout;rw[if_neg (by omega)];exact ac j v hv
    ·rw[rL (by simp;omega),tK];exact aext
end Go.Vm
