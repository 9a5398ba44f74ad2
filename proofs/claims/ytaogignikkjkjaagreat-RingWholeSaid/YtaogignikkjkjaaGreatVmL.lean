/- A part of the evaluator and of what is told of floats; no conditions. -/
import Derived.Test.YtaogignikkjkjaaGreatVmK
set_option linter.unusedSimpArgs false
set_option linter.unusedVariables false
set_option linter.unusedSectionVars false
set_option maxRecDepth 1000000
namespace Go.Vm
theorem pairsOk_spec {ops:Array Oper} {ms:List Nat}:∀{l:List (Oper×Nat)},pairsOk ops ms l=true→
  (∀(p:Nat) x,l[p]?=some x→∀ e∈x.1.after.toList,Region.binds .any e=true→e.on<x.2)∧
  (∀(p q:Nat) x y,p<q→l[p]?=some x→l[q]?=some y→pairOk ops x.2 x.1 y.1 (ms.getD y.2 0)=true)
 |[],_=>⟨fun p x h=>by simp at h,fun p q x y _ h=>by simp at h⟩
 |(o,i)::r,h=>by
  unfold pairsOk at h; simp only[Bool.and_eq_true,List.all_eq_true]at h
  obtain⟨⟨h1,h2⟩,h3⟩:=h
  obtain⟨g1,g2⟩:=pairsOk_spec h3
  refine⟨fun p x hx=>?_,fun p q x y hpq hx hy=>?_⟩
  ·cases p with
   |zero=>
    simp only[List.getElem?_cons_zero,Option.some.injEq]at hx
    subst hx; intro e he hb
    have:=h1 e he
    simpa[hb] using this
   |succ p=>exact g1 p x (by simpa using hx)
  ·cases q with
   |zero=>omega
   |succ q=>
    cases p with
    |zero=>
     simp only[List.getElem?_cons_zero,Option.some.injEq]at hx
     subst hx; exact h2 y (List.mem_of_getElem? (by simpa using hy))
    |succ p=>exact g2 p q x y (by omega) (by simpa using hx) (by simpa using hy)
theorem drawOk_spec {ops:Array Oper} (h:drawOk ops=true):
  (∀(i:Nat) o,ops[i]?=some o→∀ e∈o.after,Region.binds .any e=true→e.on<i)∧
  (∀(i j:Nat) oi oj,i<j→ops[i]?=some oi→ops[j]?=some oj→pairOk ops i oi oj ((masks ops).getD j 0)=true):=by
 obtain⟨h1,h2⟩:=pairsOk_spec h
 have hz:∀(i:Nat) o,ops[i]?=some o→ops.toList.zipIdx[i]?=some (o,i):=fun i o hi=>by
  rw[List.getElem?_zipIdx,Array.getElem?_toList,hi]
  simp
 exact⟨fun i o hi e he=>h1 i _ (hz i o hi) e (by simpa using he),fun i j oi oj hij hi hj=>h2 i j _ _ hij (hz i oi hi) (hz j oj hj)⟩
def cut (ρ:Map) (n:Nat):Map:=fun k=>bif Nat.blt k n then ρ k else none
theorem cut_some {ρ:Map} {n k:Nat} {s:Spot}:cut ρ n k=some s↔k<n∧ρ k=some s:=by
 unfold cut; cases h:Nat.blt k n with
 |true=>
      simp only[cond_true];have:k<n:=by simpa using h
      exact⟨fun g=>⟨this,g⟩,fun g=>g.2⟩
 |false=>
       simp only[cond_false];have:¬ k<n:=fun g=>by rw[show Nat.blt k n=true by simpa using g]at h;cases h
       exact⟨fun g=>(by cases g),fun g=>absurd g.1 this⟩
theorem cut_mono {ρ ρ':Map} {n n':Nat} (h:∀ k p,ρ k=some p→ρ' k=some p) (hn:n≤n'):∀ k p,cut ρ n k=some p→cut ρ' n' k=some p:=fun k p hk=>by
 obtain⟨h1,h2⟩:=cut_some.1 hk
 exact cut_some.2 ⟨by omega,h k p h2⟩
theorem cut_le {ρ ρ':Map} {n:Nat} (h:∀ k p,k<n→ρ k=some p→ρ' k=some p):∀ k p,cut ρ n k=some p→ρ' k=some p:=fun k p hk=>by
 obtain⟨h1,h2⟩:=cut_some.1 hk
 exact h k p h1 h2
theorem Next.objs {lo:Nat} {ρ ρ':Map} {H:AH} {w w':World} {n n':Nat} {O O':Objs} (h:Next lo ρ H w ρ' ⟨n,O⟩ w') (hn:H.next≤n') (hd:∀ k,n'≤k→ρ' k=none) (hO:∀ x,x∈O'↔x∈O) (hwf:∀ x,x∈O'→x.1<n'):
  Next lo ρ H w ρ' ⟨n',O'⟩ w':=
 {h with
  inv:=⟨hd,fun k o hm=>hwf _ hm,fun k o o' h1 h2=>h.inv.one k o o' ((hO _).1 h1) ((hO _).1 h2),h.inv.rel.sub fun x hx=>(hO x).1 hx⟩
  nx:=hn
  own:=fun k o s hk hm=>h.own k o s hk ((hO _).1 hm)
  old:=fun k o hk=>(hO _).trans (h.old k o hk) }
theorem advance {lo lo' nj nj1 N:Nat} {ρ0 ρ ρ1:Map} {H0 H2:AH} {w0 w w':World} {O V O':Objs} {T:List Nat} (hx:Next lo ρ0 H0 w0 ρ ⟨N,O⟩ w) (h0:H0.next≤nj) (h1:nj≤nj1) (h2:nj1≤N) (hlo:lo≤H0.next)
  (hV:∀ x,x∈V→x∈O∧x.1<nj) (hl:(lo'=lo∧∀ x,x∈V→x.1∈T)∨(lo'=nj∧T=[])) (hT:∀ k,k∈T→k<nj∧∀ o,(k,o)∈O→(k,o)∈V)
  (hnone:∀ k,nj≤k→k<nj1→ρ k=none) (n1:Next lo' (cut ρ nj) ⟨nj,V⟩ w ρ1 H2 w') (hn:H2.next=nj1)
  (hO:∀ x,x∈O'↔(x∈H2.objs∧((nj≤x.1∧x.1<nj1)∨x.1∈T))∨(x∈O∧x.1 ∉ T)):
  ∃ ρ':Map,Next lo ρ0 H0 w0 ρ' ⟨N,O'⟩ w'∧(∀ k q,ρ k=some q→ρ' k=some q)∧(∀ k q,ρ1 k=some q→ρ' k=some q)∧(∀ k,¬ (nj≤k∧k<nj1)→ρ' k=ρ k)∧(∀ k,nj≤k→k<nj1→ρ' k=ρ1 k)∧
   ∀ x s,x∈O→x.1 ∉ T→ρ x.1=some s→w'.heap[s.b]?=w.heap[s.b]?:=by
 let ρ':Map:=fun k=>if nj≤k∧k<nj1 then ρ1 k else ρ k
 have rin:∀ k,nj≤k→k<nj1→ρ' k=ρ1 k:=fun k h1 h2=>if_pos ⟨h1,h2⟩
 have rout:∀ k,¬ (nj≤k∧k<nj1)→ρ' k=ρ k:=fun k h=>if_neg h
 have hρ:∀ k q,ρ k=some q→ρ' k=some q:=fun k q hk=>by
  by_cases h:nj≤k∧k<nj1
  ·rw[hnone k h.1 h.2]at hk;cases hk
  ·rw[rout k h];exact hk
 have low:∀ k,k<nj→ρ1 k=ρ k:=fun k hk=>by
  have:=n1.same k hk
  rw[this]
  unfold cut
  rw[show Nat.blt k nj=true by simpa using hk]
  rfl
 have hρ1:∀ k q,ρ1 k=some q→ρ' k=some q:=fun k q hk=>by
  have hlt1:k<H2.next:=n1.inv.lt hk; by_cases h:nj≤k
  ·rw[rin k h (by omega)];exact hk
  ·rw[rout k (fun g=>h g.1),← low k (by omega)];exact hk
 have lo'le:lo'≤nj:=by rcases hl with ⟨h,_⟩|⟨h,_⟩<;>omega
 have olt:∀ x s,x∈O→ρ x.1=some s→s.b<w.heap.size:=fun x s hx2 hs=>by
  obtain⟨s2,e1,e2⟩:=hx.inv.rel.obj x.1 x.2 hx2
  rw[hs]at e1;cases e1
  exact e2.lt
 have keepO:∀ x s,x∈O→x.1 ∉ T→ρ x.1=some s→w'.heap[s.b]?=w.heap[s.b]?:=fun x s hx2 hT2 hs=>by
  refine n1.keep s.b (olt x s hx2 hs) fun k o s2 g1 g2 g3 g4=>?_
  obtain⟨q1,q2⟩:=hV _ g2
  have g3':=(cut_some.1 g3).2; rcases hl with ⟨_,h⟩|⟨h,_⟩
  ·have:=hx.inv.rel.inj k o x.1 x.2 s2 s q1 hx2 g3' hs g4
   subst this; exact hT2 (h (x.1,o) g2)
  ·simp only at q2;omega
 have outO:∀ x,x∈O→¬ (nj≤x.1∧x.1<nj1):=fun x hx2 h=>by
  obtain⟨s,e1,_⟩:=hx.inv.rel.obj x.1 x.2 hx2
  rw[hnone x.1 h.1 h.2]at e1
  cases e1
 have h2map:∀ x s,x∈H2.objs→ρ1 x.1=some s→(nj≤x.1∧x.1<nj1)∨x.1∈T→(w.heap.size≤s.b∧lo≤x.1)∨∃ y s',y∈O∧y.1∈T∧ρ y.1=some s'∧s'.b=s.b∧(lo≤x.1→lo≤y.1):=fun x s hx2 hs hc=>by
  rcases Nat.lt_or_ge x.1 lo' with g|g
  ·have hin:=(n1.old x.1 x.2 g).1 hx2
   obtain⟨q1,q2⟩:=hV _ hin
   have hk:x.1∈T:=by
    rcases hc with h|h
    ·omega
    ·exact h
   exact .inr ⟨x,s,q1,hk,by rw[← low x.1 q2];exact hs,rfl,fun h=>h⟩
  ·rcases n1.own x.1 x.2 s g hx2 hs with h|⟨k',o',s',e1,e2,e3,e4⟩
   ·refine .inl ⟨h,?_⟩
    rcases hl with ⟨h',_⟩|⟨h',_⟩<;>omega
   ·obtain⟨q1,q2⟩:=hV _ e2
    rcases hl with ⟨h',h3⟩|⟨h',_⟩
    ·exact .inr ⟨(k',o'),s',q1,h3 _ e2,(cut_some.1 e3).2,e4,fun _=>by rw[← h'];exact e1⟩
    ·simp only at q2;omega
 refine⟨ρ',?_,hρ,hρ1,rout,rin,keepO⟩
 have r1:∀ x s,x∈H2.objs→((nj≤x.1∧x.1<nj1)∨x.1∈T)→ρ' x.1=some s→ρ1 x.1=some s:=fun x s hx2 hc hs=>by
  rcases hc with h|h
  ·rw[rin x.1 h.1 h.2]at hs;exact hs
  ·have:=(hT x.1 h).1
   rw[rout x.1 (by omega)]at hs
   rw[low x.1 this];exact hs
 have r2:∀ x s,x∈O→ρ' x.1=some s→ρ x.1=some s:=fun x s hx2 hs=>by
  rw[rout x.1 (outO x hx2)]at hs;exact hs
 exact
 {inv:=⟨fun k hk=>by
    simp only at hk
    rw[rout k (by omega)]
    exact hx.inv.dom k hk,
   fun k o hm=>by
    rcases(hO _).1 hm with ⟨g1,g2⟩|⟨g1,_⟩
    ·have:=n1.inv.wf k o g1
     simp only;omega
    ·exact hx.inv.wf k o g1,
   fun k o1 o2 m1 m2=>by
    rcases(hO _).1 m1 with ⟨g1,g2⟩|⟨g1,g2⟩<;>rcases(hO _).1 m2 with ⟨k1,k2⟩|⟨k1,k2⟩
    ·exact n1.inv.one k o1 o2 g1 k1
    ·rcases g2 with g2|g2
     ·exact absurd g2 (outO (k,o2) k1)
     ·exact absurd g2 k2
    ·rcases k2 with k2|k2
     ·exact absurd k2 (outO (k,o1) g1)
     ·exact absurd k2 g2
    ·exact hx.inv.one k o1 o2 g1 k1,
   ⟨fun k o hm=>by
    rcases(hO _).1 hm with ⟨g1,g2⟩|⟨g1,g2⟩
    ·obtain⟨s,e1,e2⟩:=n1.inv.rel.obj k o g1
     exact⟨s,hρ1 k s e1,e2.mono hρ1⟩
    ·obtain⟨s,e1,e2⟩:=hx.inv.rel.obj k o g1
     exact⟨s,hρ k s e1,(e2.mono hρ).heap (keepO (k,o) s g1 g2 e1)⟩,
    fun k o k' o' s s' m1 m2 m3 m4 m5=>by
    rcases(hO _).1 m1 with ⟨g1,g2⟩|⟨g1,g2⟩<;>rcases(hO _).1 m2 with ⟨k1,k2⟩|⟨k1,k2⟩
    ·exact n1.inv.rel.inj k o k' o' s s' g1 k1 (r1 (k,o) s g1 g2 m3) (r1 (k',o') s' k1 k2 m4) m5
    ·rcases h2map (k,o) s g1 (r1 (k,o) s g1 g2 m3) g2 with ⟨q,_⟩|⟨y,sy,y1,y2,y3,y4,_⟩
     ·have:=olt (k',o') s' k1 (r2 (k',o') s' k1 m4);omega
     ·have:=hx.inv.rel.inj y.1 y.2 k' o' sy s' y1 k1 y3 (r2 (k',o') s' k1 m4) (by omega)
      simp only at k2
      rw[this]at y2
      exact absurd y2 k2
    ·rcases h2map (k',o') s' k1 (r1 (k',o') s' k1 k2 m4) k2 with ⟨q,_⟩|⟨y,sy,y1,y2,y3,y4,_⟩
     ·have:=olt (k,o) s g1 (r2 (k,o) s g1 m3);omega
     ·have:=hx.inv.rel.inj y.1 y.2 k o sy s y1 g1 y3 (r2 (k,o) s g1 m3) (by omega)
      simp only at g2
      rw[this]at y2
      exact absurd y2 g2
    ·exact hx.inv.rel.inj k o k' o' s s' g1 k1 (r2 (k,o) s g1 m3) (r2 (k',o') s' k1 m4) m5⟩⟩
  same:=fun k hk=>by rw[rout k (by omega)];exact hx.same k hk
  nx:=hx.nx
  size:=Nat.le_trans hx.size n1.size
  os:=n1.os.trans hx.os
  tape:=n1.tape.trans hx.tape
  output:=n1.output.trans hx.output
  keep:=fun b hb hnn=>by
   rw[← hx.keep b hb hnn]
   refine n1.keep b (Nat.lt_of_lt_of_le hb hx.size) fun k o s g1 g2 g3 g4=>?_
   obtain⟨q1,q2⟩:=hV _ g2
   rcases hl with ⟨h',_⟩|⟨h',_⟩
   ·rcases hx.own k o s (by omega) q1 (cut_some.1 g3).2 with h|⟨k',o',s',e1,e2,e3,e4⟩
    ·omega
    ·exact hnn k' o' s' e1 e2 e3 (e4.trans g4)
   ·simp only at q2;omega
  own:=fun k o s hk hm hs=>by
   rcases(hO _).1 hm with ⟨g1,g2⟩|⟨g1,g2⟩
   ·rcases h2map (k,o) s g1 (r1 (k,o) s g1 g2 hs) g2 with ⟨q,_⟩|⟨y,sy,y1,y2,y3,y4,y5⟩
    ·exact .inl (Nat.le_trans hx.size q)
    ·rcases hx.own y.1 y.2 sy (y5 hk) y1 y3 with h|⟨k',o',s',e1,e2,e3,e4⟩
     ·exact .inl (by omega)
     ·exact .inr ⟨k',o',s',e1,e2,e3,e4.trans y4⟩
   ·exact hx.own k o s hk g1 (r2 (k,o) s g1 hs)
  old:=fun k o hk=>by
   rw[← hx.old k o hk,hO]
   constructor
   ·rintro (⟨g1,g2⟩|⟨g1,_⟩)
    ·rcases g2 with g2|g2
     ·simp only at g2;omega
     ·have hin:=(n1.old k o (by rcases hl with ⟨h',_⟩|⟨h',_⟩<;>omega)).1 g1
      exact(hV _ hin).1
    ·exact g1
   ·intro hm; by_cases hk2:k∈T
    ·have hin:=(hT k hk2).2 o hm; exact .inl ⟨(n1.old k o (by rcases hl with ⟨h',_⟩|⟨h',_⟩<;>omega)).2 hin,.inr hk2⟩
    ·exact .inr ⟨hm,hk2⟩ }
section
variable {C:Cx} {lo sz:Nat} {ops:Array Oper} {vals:Nat→Value} {heaps:Nat→AH} {envs:Nat→Env} {seen:Nat→Option (List Nat)} {tch:Nat→List Nat}
def TraceOk (C:Cx) (lo sz:Nat) (ops:Array Oper) (vals:Nat→Value) (heaps:Nat→AH) (envs:Nat→Env) (seen:Nat→Option (List Nat)) (tch:Nat→List Nat):Prop:=
 ∀(j:Nat) o,ops[j]?=some o→dstOk sz o=true∧StepOk C lo ops ((masks ops).getD j 0) heaps seen tch j o (restrE (envs j) (readsOf ops o)) (vals j)∧envs (j+1)=putE o (vals j) (envs j)
theorem trace_mono (ht:TraceOk C lo sz ops vals heaps envs seen tch) {j:Nat} (hj:j<ops.size):(heaps j).next≤(heaps (j+1)).next:=by
 obtain⟨_,hs,_⟩:=ht j ops[j] (by simp[hj])
 rcases hs with ⟨_,_,h,_⟩|⟨_,_,h,_⟩|⟨_,_,V,H2,l,vis,_,_,_,_,_,h1,h2,_⟩
 ·rw[h];exact Nat.le_refl _
 ·rw[h];exact Nat.le_refl _
 ·rw[h2];exact h1
theorem trace_le (ht:TraceOk C lo sz ops vals heaps envs seen tch):∀(d i:Nat),i+d≤ops.size→(heaps i).next≤(heaps (i+d)).next
 |0,i,_=>Nat.le_refl _
 |d+1,i,h=>Nat.le_trans (trace_le ht d i (by omega)) (trace_mono ht (j:=i+d) (by omega))
theorem trace_le' (ht:TraceOk C lo sz ops vals heaps envs seen tch) {i j:Nat} (h:i≤j) (hj:j≤ops.size):(heaps i).next≤(heaps j).next:=by
 have:=trace_le ht (j-i) i (by omega)
 rwa [show i+(j-i)=j by omega]at this
theorem trace_env (ht:TraceOk C lo sz ops vals heaps envs seen tch) (t:Tmp):∀ i,i≤ops.size→
  (∃ j o,j<i∧ops[j]?=some o∧o.dst=some t∧getE t (envs i)=some (vals j))∨((∀(j:Nat) o,j<i→ops[j]?=some o→o.dst≠some t)∧getE t (envs i)=getE t (envs 0))
 |0,_=>.inr ⟨fun j o h=>by omega,rfl⟩
 |i+1,hi=>by
  have hlt:i<ops.size:=by omega
  obtain⟨_,_,he⟩:=ht i ops[i] (by simp[hlt])
  have ih:=trace_env ht t i (by omega)
  rw[he]
  unfold putE; cases hd:(ops[i]).dst with
  |none=>
   simp only
   rcases ih with ⟨j,o,h1,h2,h3,h4⟩|⟨h1,h2⟩
   ·exact .inl ⟨j,o,by omega,h2,h3,h4⟩
   ·refine .inr ⟨fun j o hj ho=>?_,h2⟩
    by_cases hji:j=i
    ·subst hji;simp[hlt]at ho;subst ho;rw[hd];simp
    ·exact h1 j o (by omega) ho
  |some d=>
   simp only[getE]
   cases hb:Nat.beq d t with
   |true=>
    have:=Nat.eq_of_beq_eq_true hb
    subst this; exact .inl ⟨i,ops[i],by omega,by simp[hlt],hd,rfl⟩
   |false=>
    have hne:d≠t:=fun e=>by subst e;simp at hb
    simp only[cond_false]
    rcases ih with ⟨j,o,h1,h2,h3,h4⟩|⟨h1,h2⟩
    ·exact .inl ⟨j,o,by omega,h2,h3,h4⟩
    ·refine .inr ⟨fun j o hj ho=>?_,h2⟩
     by_cases hji:j=i
     ·subst hji;simp[hlt]at ho;subst ho;rw[hd];simp[hne]
     ·exact h1 j o (by omega) ho
def Touch (heaps:Nat→AH) (tch:Nat→List Nat) (t k:Nat):Prop:=((heaps t).next≤k∧k<(heaps (t+1)).next)∨k∈tch t
theorem touch_lt (ht:TraceOk C lo sz ops vals heaps envs seen tch) {t k:Nat} (hts:t<ops.size) (h:Touch heaps tch t k):k<(heaps (t+1)).next:=by
 rcases h with h|h
 ·exact h.2
 ·obtain⟨_,hs,_⟩:=ht t ops[t] (by simp[hts])
  rcases hs with ⟨_,_,_,_,g⟩|⟨_,_,_,_,g,_⟩|⟨_,_,V,H2,l,vis,_,_,_,g,_,h1,h2,_⟩
  ·rw[g]at h;simp at h
  ·rw[g]at h;simp at h
  ·have:=(g k h).2.1;omega
theorem no_touch (ht:TraceOk C lo sz ops vals heaps envs seen tch) {t:Nat} (hts:t<ops.size) {x:Nat×AObj} (h:¬ Touch heaps tch t x.1):
  (x∈(heaps (t+1)).objs→x∈(heaps t).objs)∧(x.1<(heaps t).next→x∈(heaps t).objs→x∈(heaps (t+1)).objs):=by
 obtain⟨_,hs,_⟩:=ht t ops[t] (by simp[hts])
 rcases hs with ⟨_,_,g,_⟩|⟨_,_,g,_⟩|⟨_,_,V,H2,l,vis,_,_,_,_,_,_,h2,h3,_⟩
 ·rw[g];exact⟨fun h=>h,fun _ h=>h⟩
 ·rw[g];exact⟨fun h=>h,fun _ h=>h⟩
 ·refine⟨fun hx=>?_,fun hl hx=>(h3 x).2 (.inr ⟨hx,fun g=>h (.inr g),hl⟩)⟩
  rcases(h3 x).1 hx with ⟨_,g⟩|⟨g,_⟩
  ·rw[← h2]at g;exact absurd g h
  ·exact g
theorem chain_back (ht:TraceOk C lo sz ops vals heaps envs seen tch) {x:Nat×AObj} {a:Nat}:∀ d,a+d≤ops.size→(∀ t,a≤t→t<a+d→¬ Touch heaps tch t x.1)→x∈(heaps (a+d)).objs→x∈(heaps a).objs
 |0,_,_,h=>h
 |d+1,hd,hn,h=>chain_back ht d (by omega) (fun t h1 h2=>hn t h1 (by omega)) ((no_touch ht (t:=a+d) (by omega) (hn _ (by omega) (by omega))).1 h)
theorem chain_on (ht:TraceOk C lo sz ops vals heaps envs seen tch) {x:Nat×AObj} {a:Nat} (hl:x.1<(heaps a).next):∀ d,a+d≤ops.size→(∀ t,a≤t→t<a+d→¬ Touch heaps tch t x.1)→x∈(heaps a).objs→x∈(heaps (a+d)).objs
 |0,_,_,h=>h
 |d+1,hd,hn,h=>(no_touch ht (t:=a+d) (by omega) (hn _ (by omega) (by omega))).2 (Nat.lt_of_lt_of_le hl (trace_le ht d a (by omega))) (chain_on ht hl d (by omega) (fun t h1 h2=>hn t h1 (by omega)) h)
theorem chain_back' (ht:TraceOk C lo sz ops vals heaps envs seen tch) {x:Nat×AObj} {a b:Nat} (hab:a≤b) (hb:b≤ops.size) (hn:∀ t,a≤t→t<b→¬ Touch heaps tch t x.1) (h:x∈(heaps b).objs):x∈(heaps a).objs:=
 chain_back ht (b-a) (by omega) (fun t h1 h2=>hn t h1 (by omega)) (by rw[show a+(b-a)=b by omega];exact h)
theorem chain_on' (ht:TraceOk C lo sz ops vals heaps envs seen tch) {x:Nat×AObj} {a b:Nat} (hab:a≤b) (hb:b≤ops.size) (hl:x.1<(heaps a).next) (hn:∀ t,a≤t→t<b→¬ Touch heaps tch t x.1) (h:x∈(heaps a).objs):x∈(heaps b).objs:=by
 have:=chain_on ht hl (b-a) (by omega) (fun t h1 h2=>hn t h1 (by omega)) h
 rwa [show a+(b-a)=b by omega]at this
theorem range_one (ht:TraceOk C lo sz ops vals heaps envs seen tch) {t u k:Nat} (h0:t<ops.size) (h0':u<ops.size) (h1:(heaps t).next≤k) (h2:k<(heaps (t+1)).next) (h3:(heaps u).next≤k) (h4:k<(heaps (u+1)).next):t=u:=by
 rcases Nat.lt_trichotomy t u with g|g|g
 ·have:=trace_le' ht (show t+1≤u by omega) (by omega);omega
 ·exact g
 ·have:=trace_le' ht (show u+1≤t by omega) (by omega);omega
def Last (ops:Array Oper) (heaps:Nat→AH) (tch:Nat→List Nat) (listed:Array Bool) (k t:Nat):Prop:=
 t<ops.size∧listed.getD t true=true∧Touch heaps tch t k∧∀ t',t<t'→t'<ops.size→listed.getD t' true=true→¬ Touch heaps tch t' k
def NoT (ops:Array Oper) (heaps:Nat→AH) (tch:Nat→List Nat) (listed:Array Bool) (k:Nat):Prop:=∀ t,t<ops.size→listed.getD t true=true→¬ Touch heaps tch t k
def ObjP (ops:Array Oper) (heaps:Nat→AH) (tch:Nat→List Nat) (listed:Array Bool) (x:Nat×AObj):Prop:=
 (∃ t,Last ops heaps tch listed x.1 t∧x∈(heaps (t+1)).objs)∨(NoT ops heaps tch listed x.1∧x∈(heaps 0).objs)
structure DS (lo sz:Nat) (ops:Array Oper) (vals:Nat→Value) (heaps:Nat→AH) (envs:Nat→Env) (tch:Nat→List Nat) (ρ0:Map) (w0:World) (df:List Deferred) (ρ:Map) (O:Objs) (listed:Array Bool) (a:Act) (w:World):Prop where
 len:listed.size=ops.size
 cl:∀(i:Nat) o,ops[i]?=some o→listed.getD i true=true→∀ e∈o.after,Region.binds .any e=true→listed.getD e.on false=true
 obj:∀ x,x∈O↔ObjP ops heaps tch listed x
 nx:Next lo ρ0 (heaps 0) w0 ρ ⟨(heaps ops.size).next,O⟩ w
 non:∀ t,t<ops.size→listed.getD t true=false→∀ k,(heaps t).next≤k→k<(heaps (t+1)).next→ρ k=none
 hasL:∀ x,x∈O→∀ t,Last ops heaps tch listed x.1 t→∀ s,ρ x.1=some s→OHas (cut ρ (heaps (t+1)).next) x.2 s w
 has0:∀ x,x∈O→NoT ops heaps tch listed x.1→∀ s,ρ x.1=some s→OHas (cut ρ (heaps 0).next) x.2 s w
 envA:∀(i:Nat) o t,ops[i]?=some o→o.dst=some t→listed.getD i true=true→∃ v',a.tmps[t]?=some v'∧VRel (cut ρ (heaps (i+1)).next) (vals i) v'
 envB:∀ t,(∀(i:Nat) o,ops[i]?=some o→o.dst=some t→listed.getD i true=false)→∀ u,getE t (envs 0)=some u→∃ v',a.tmps[t]?=some v'∧VRel ρ0 u v'
 sz:a.tmps.size=sz
 df:a.defers=df
theorem set_getD {listed:Array Bool} {i j:Nat} (hi:i<listed.size) (d:Bool):(listed.setIfInBounds i true).getD j d=if j=i then true else listed.getD j d:=by
 by_cases h:j=i
 ·subst h;simp[hi]
 ·rw[getD_set_ne d (Ne.symm h),if_neg h]
theorem getD_true {listed:Array Bool} {j:Nat} (h:listed.getD j false=true):listed.getD j true=true:=by
 rcases Nat.lt_or_ge j listed.size with g|g
 ·simp[g]at h ⊢;exact h
 ·simp[Array.getD,Nat.not_lt.2 g]at h
theorem getD_false {listed:Array Bool} {j:Nat} (hj:j<listed.size) (h:listed.getD j true=true):listed.getD j false=true:=by
 simp[hj]at h ⊢;exact h
section
variable {ρ0:Map} {w0 w:World} {df:List Deferred} {ρ:Map} {O:Objs} {listed:Array Bool} {a:Act}
theorem DS.bits (hd:DS lo sz ops vals heaps envs tch ρ0 w0 df ρ O listed a w) {i:Nat} {o:Oper} (ho:ops[i]?=some o) (hpre:∀ e∈o.after,Region.binds .any e=true→listed.getD e.on false=true)
  {j:Nat} (hj:Nat.testBit ((masks ops).getD i 0) j=true):listed.getD j true=true:=
 masks_spec (S:=fun j=>listed.getD j true=true) (fun i o ho hl e he hb=>getD_true (hd.cl i o ho hl e (by simpa using he) hb)) ho (fun e he hb=>getD_true (hpre e (by simpa using he) hb)) hj
theorem DS.behind (hd:DS lo sz ops vals heaps envs tch ρ0 w0 df ρ O listed a w) {i j:Nat} {oj:Oper} (hun:listed.getD i true=false) (hj:ops[j]?=some oj)
  (hb:Nat.testBit ((masks ops).getD j 0) i=true):listed.getD j true=false:=by
 cases hl:listed.getD j true with
 |false=>rfl
 |true=>
  have:=hd.bits hj (hd.cl j oj hj hl) hb
  rw[this]at hun
  cases hun
theorem DS.reads (ht:TraceOk C lo sz ops vals heaps envs seen tch) (hi0:Inv ρ0 (heaps 0) w0)
  (hok:∀(i j:Nat) oi oj,i<j→ops[i]?=some oi→ops[j]?=some oj→pairOk ops i oi oj ((masks ops).getD j 0)=true)
  (hd:DS lo sz ops vals heaps envs tch ρ0 w0 df ρ O listed a w) {i:Nat} {o:Oper} (ho:ops[i]?=some o) (hun:listed.getD i true=false)
  (hpre:∀ e∈o.after,Region.binds .any e=true→listed.getD e.on false=true):EnvRel (cut ρ (heaps i).next) (restrE (envs i) (readsOf ops o)) a.tmps:=by
 intro t u hu
 obtain⟨hmem,hget⟩:=getE_restr hu
 have hlt:i<ops.size:=(Array.getElem?_eq_some_iff.1 ho).1; have hin:(readsOf ops o).any (Nat.beq t)=true:=List.any_eq_true.2 ⟨t,hmem,by simp⟩; rcases trace_env ht t i (by omega) with ⟨j,oj,h1,h2,h3,h4⟩|⟨h1,h2⟩
 ·rw[hget]at h4
  cases h4
  have:=hok j i oj o h1 h2 ho
  unfold pairOk at this
  rw[h3]at this
  simp only[Bool.and_eq_true]at this
  have h2':=this.1.2
  rw[hin]at h2'
  obtain⟨v',g1,g2⟩:=hd.envA j oj t h2 h3 (hd.bits ho hpre (by simpa using h2'))
  exact⟨v',g1,g2.mono (cut_mono (fun _ _ h=>h) (trace_le' ht (by omega) (by omega)))⟩
 ·rw[h2]at hget
  obtain⟨v',g1,g2⟩:=hd.envB t (fun j oj hj hdj=>by
   rcases Nat.lt_trichotomy j i with h|h|h
   ·exact absurd hdj (h1 j oj h hj)
   ·subst h;exact hun
   ·have:=hok i j o oj h ho hj
    unfold pairOk at this
    rw[hdj]at this
    simp only[Bool.and_eq_true]at this
    have h2':=this.2
    rw[hin]at h2'
    exact hd.behind hun hj (by simpa using h2')) u hget
  refine⟨v',g1,g2.mono fun k q hk=>?_⟩
  have hlt0:=hi0.lt hk; refine cut_some.2 ⟨Nat.lt_of_lt_of_le hlt0 (trace_le' ht (Nat.zero_le _) (by omega)),?_⟩
  rw[hd.nx.same k hlt0];exact hk
theorem DS.put (ht:TraceOk C lo sz ops vals heaps envs seen tch)
  (hok:∀(i j:Nat) oi oj,i<j→ops[i]?=some oi→ops[j]?=some oj→pairOk ops i oi oj ((masks ops).getD j 0)=true)
  (hd:DS lo sz ops vals heaps envs tch ρ0 w0 df ρ O listed a w) {i:Nat} {o:Oper} (ho:ops[i]?=some o) (hun:listed.getD i true=false)
  (hpre:∀ e∈o.after,Region.binds .any e=true→listed.getD e.on false=true) {v':Value} {ρ':Map} {O':Objs} {w':World} (hv:VRel (cut ρ' (heaps (i+1)).next) (vals i) v')
  (hρ:∀ k q,ρ k=some q→ρ' k=some q)
  (obj:∀ x,x∈O'↔ObjP ops heaps tch (listed.setIfInBounds i true) x)
  (nx:Next lo ρ0 (heaps 0) w0 ρ' ⟨(heaps ops.size).next,O'⟩ w')
  (non:∀ t,t<ops.size→(listed.setIfInBounds i true).getD t true=false→∀ k,(heaps t).next≤k→k<(heaps (t+1)).next→ρ' k=none)
  (hasL:∀ x,x∈O'→∀ t,Last ops heaps tch (listed.setIfInBounds i true) x.1 t→∀ s,ρ' x.1=some s→OHas (cut ρ' (heaps (t+1)).next) x.2 s w')
  (has0:∀ x,x∈O'→NoT ops heaps tch (listed.setIfInBounds i true) x.1→∀ s,ρ' x.1=some s→OHas (cut ρ' (heaps 0).next) x.2 s w'):
  DS lo sz ops vals heaps envs tch ρ0 w0 df ρ' O' (listed.setIfInBounds i true) (a.put o.dst v') w':=by
 have hlt:i<listed.size:=by rw[hd.len];exact(Array.getElem?_eq_some_iff.1 ho).1
 have hdst:=(ht i o ho).1
 refine
 {len:=by simp[hd.len]
  cl:=fun j oj hj hl e he hb=>?_
  obj:=obj,nx:=nx,non:=non,hasL:=hasL,has0:=has0
  envA:=fun j oj t hj hdj hl=>?_
  envB:=fun t hno u hu=>?_
  sz:=by rw[put_size,hd.sz]
  df:=by rw[put_defers,hd.df] }
 ·rw[set_getD hlt]at hl
  rw[set_getD hlt]
  split
  ·rfl
  ·by_cases hji:j=i
   ·subst hji;rw[ho]at hj;cases hj;exact hpre e he hb
   ·rw[if_neg hji]at hl;exact hd.cl j oj hj hl e he hb
 ·rw[set_getD hlt]at hl
  by_cases hji:j=i
  ·subst hji
   rw[ho]at hj
   cases hj
   unfold dstOk at hdst
   rw[hdj]at hdst
   simp only[Nat.blt_eq]at hdst
   refine⟨v',?_,hv⟩
   have:t<a.tmps.size:=by rw[hd.sz];exact hdst
   simp[Act.put,hdj,this]
  ·rw[if_neg hji]at hl
   obtain⟨u',h1,h2⟩:=hd.envA j oj t hj hdj hl
   refine⟨u',?_,h2.mono (cut_mono hρ (Nat.le_refl _))⟩
   cases hdo:o.dst with
   |none=>exact h1
   |some d=>
    have hne:d≠t:=fun e=>by
     subst e; rcases Nat.lt_or_gt_of_ne hji with h|h
     ·have:=hok j i oj o h hj ho
      simp[pairOk,hdj,hdo]at this
     ·have:=hok i j o oj h ho hj
      simp[pairOk,hdj,hdo]at this
    simp only[Act.put]
    rw[Array.getElem?_setIfInBounds_ne hne]
    exact h1
 ·have hi:=hno i o ho; have hne:o.dst≠some t:=fun e=>by
   have:=hi e
   rw[set_getD hlt,if_pos rfl]at this
   cases this
  obtain⟨u',h1,h2⟩:=hd.envB t (fun j oj hj hdj=>by
   have:=hno j oj hj hdj
   rw[set_getD hlt]at this
   split at this
   ·cases this
   ·exact this) u hu
  refine⟨u',?_,h2⟩
  cases hdo:o.dst with
  |none=>exact h1
  |some d=>
   have:d≠t:=fun e=>hne (by rw[hdo,e])
   simp only[Act.put]
   rw[Array.getElem?_setIfInBounds_ne this]
   exact h1
end
theorem last_of {P:Nat→Prop}:∀ n:Nat,(∃ t,t<n∧P t∧∀ t',t<t'→t'<n→¬ P t')∨∀ t,t<n→¬ P t
 |0=>.inr fun t h=>by omega
 |n+1=>by
  rcases Classical.em (P n) with h|h
  ·exact .inl ⟨n,by omega,h,fun t' h1 h2=>by omega⟩
  ·rcases last_of n with ⟨t,h1,h2,h3⟩|h1
   ·refine .inl ⟨t,by omega,h2,fun t' h4 h5=>?_⟩
    rcases Nat.lt_or_ge t' n with g|g
    ·exact h3 t' h4 g
    ·have:t'=n:=by omega
     subst this;exact h
   ·refine .inr fun t h2=>?_
    rcases Nat.lt_or_ge t n with g|g
    ·exact h1 t g
    ·have:t=n:=by omega
     subst this;exact h
theorem set_true {l:Array Bool} {i u:Nat} (hi:i<l.size) (h:l.getD u true=true):(l.setIfInBounds i true).getD u true=true:=by
 rw[set_getD hi]
 split
 ·rfl
 ·exact h
theorem wpAny_draw (hdraw:drawOk ops=true) (ht:TraceOk C lo sz ops vals heaps envs seen tch) {ρ0:Map} {w0:World} {df:List Deferred} (hi:Inv ρ0 (heaps 0) w0) (hlo:lo≤(heaps 0).next)
  {Q:Exit→Act→World→Prop}
  (hQ:∀ ρ' a' w',Next lo ρ0 (heaps 0) w0 ρ' (heaps ops.size) w'→EnvRel ρ' (envs ops.size) a'.tmps→a'.tmps.size=sz→a'.defers=df→Q .normal a' w'):
  ∀(fuel:Nat) (ρ:Map) (O:Objs) (listed:Array Bool) (a:Act) (w:World) (S:List Nat),DS lo sz ops vals heaps envs tch ρ0 w0 df ρ O listed a w→S.length≤fuel→(∀ i,i<ops.size→listed.getD i true=false→i∈S)→
   wpAny C.P .any ops Q fuel listed a w:=by
 obtain⟨hedge,hok⟩:=drawOk_spec hdraw
 have fin:∀(ρ:Map) (O:Objs) (listed:Array Bool) (a:Act) (w:World),DS lo sz ops vals heaps envs tch ρ0 w0 df ρ O listed a w→(∀ i,i<ops.size→listed.getD i true=true)→Q .normal a w:=by
  intro ρ O listed a w hd hall; have hO:∀ x,x∈(heaps ops.size).objs↔x∈O:=fun x=>by
   rw[hd.obj x]
   constructor
   ·intro hx; rcases last_of (P:=fun t=>Touch heaps tch t x.1) ops.size with ⟨t,h1,h2,h3⟩|h1
    ·exact .inl ⟨t,⟨h1,hall t h1,h2,fun t' h4 h5 _=>h3 t' h4 h5⟩,chain_back' ht (by omega) (Nat.le_refl _) (fun u h4 h5=>h3 u (by omega) h5) hx⟩
    ·exact .inr ⟨fun t h2 _=>h1 t h2,chain_back' ht (Nat.zero_le _) (Nat.le_refl _) (fun u _ h5=>h1 u h5) hx⟩
   ·rintro (⟨t,⟨h1,_,h2,h3⟩,hx⟩|⟨h1,hx⟩)
    ·exact chain_on' ht (by omega) (Nat.le_refl _) (touch_lt ht h1 h2) (fun u h4 h5=>h3 u (by omega) h5 (hall u h5)) hx
    ·exact chain_on' ht (Nat.zero_le _) (Nat.le_refl _) (hi.wf x.1 x.2 hx) (fun u _ h5=>h1 u h5 (hall u h5)) hx
  have hN:Next lo ρ0 (heaps 0) w0 ρ (heaps ops.size) w:=hd.nx.objs (trace_le' ht (Nat.zero_le _) (Nat.le_refl _)) hd.nx.inv.dom hO (fun x hx=>hd.nx.inv.wf x.1 x.2 ((hO x).1 hx)); refine hQ ρ a w hN (fun t u hu=>?_) hd.sz hd.df; rcases trace_env ht t ops.size (Nat.le_refl _) with ⟨j,oj,h1,h2,h3,h4⟩|⟨h1,h2⟩
  ·rw[hu]at h4
   cases h4
   obtain⟨v',g1,g2⟩:=hd.envA j oj t h2 h3 (hall j h1)
   exact⟨v',g1,g2.mono (cut_le fun _ _ _ h=>h)⟩
  ·rw[h2]at hu
   obtain⟨v',g1,g2⟩:=hd.envB t (fun j oj hj hdj=>absurd hdj (h1 j oj (Array.getElem?_eq_some_iff.1 hj).1 hj)) u hu
   exact⟨v',g1,g2.mono (hN.ext hi)⟩
 have allOf:∀(ρ:Map) (O:Objs) (listed:Array Bool) (a:Act) (w:World),DS lo sz ops vals heaps envs tch ρ0 w0 df ρ O listed a w→Region.ready .any ops listed=[]→∀ i,i<ops.size→listed.getD i true=true:=by
  intro ρ O listed a w hd hr i; induction i using Nat.strongRecOn with
  |_ i ih=>
   intro hlt; cases hl:listed.getD i true with
   |true=>rfl
   |false=>
    have:i∈Region.ready .any ops listed:=mem_ready.2 ⟨hl,ops[i],by simp[hlt],fun e he hb=>by
     have hlt':=hedge i ops[i] (by simp[hlt]) e he hb; exact getD_false (by rw[hd.len];omega) (ih e.on hlt' (by omega))⟩
    rw[hr]at this
    cases this
 intro fuel; induction fuel with
 |zero=>
  intro ρ O listed a w S hd hS hun
  have:S=[]:=List.length_eq_zero_iff.1 (by omega)
  subst this; have hall:∀ i,i<ops.size→listed.getD i true=true:=fun i hi=>by
   cases hl:listed.getD i true with
   |true=>rfl
   |false=>exact absurd (hun i hi hl) (by simp)
  refine⟨?_,fin ρ O listed a w hd hall⟩
  cases hr:Region.ready .any ops listed with
  |nil=>rfl
  |cons i r=>
   have hm:i∈Region.ready .any ops listed:=by rw[hr];simp
   obtain⟨h1,o,ho,_⟩:=mem_ready.1 hm
   rw[hall i (Array.getElem?_eq_some_iff.1 ho).1]at h1
   cases h1
 |succ fuel ih=>
  intro ρ O listed a w S hd hS hun
  refine⟨fun hr=>fin ρ O listed a w hd (allOf ρ O listed a w hd hr),fun i hir=>?_⟩
  obtain⟨hl,o,ho,hpre⟩:=mem_ready.1 hir
  have hlt:i<ops.size:=(Array.getElem?_eq_some_iff.1 ho).1; have hlt':i<listed.size:=by rw[hd.len];exact hlt
  have hread:=hd.reads ht hi hok ho hl hpre
  obtain⟨hdst,hstep,_⟩:=ht i o ho
  have hni:=trace_mono ht hlt; have hn0:=trace_le' ht (Nat.zero_le i) (by omega); have hnz:=trace_le' ht (show i+1≤ops.size by omega) (Nat.le_refl _); have hnext:∀(ρ':Map) (O':Objs) (a':Act) (w':World),DS lo sz ops vals heaps envs tch ρ0 w0 df ρ' O' (listed.setIfInBounds i true) a' w'→wpAny C.P .any ops Q fuel (listed.setIfInBounds i true) a' w':=by
   intro ρ' O' a' w' hd'; have hiS:=hun i hlt hl; refine ih ρ' O' _ a' w' (S.erase i) hd' (by rw[List.length_erase_of_mem hiS];omega) fun j hj hlj=>?_
   rw[set_getD hlt']at hlj
   split at hlj
   ·cases hlj
   ·rename_i hne
    exact(List.mem_erase_of_ne hne).2 (hun j hj hlj)
  have noneR:∀ k,(heaps i).next≤k→k<(heaps (i+1)).next→ρ k=none:=fun k h1 h2=>hd.non i hlt hl k h1 h2
  have after:∀ k,Touch heaps tch i k→∀ t,i<t→t<ops.size→listed.getD t true=true→¬ Touch heaps tch t k:=fun k hk t h1 h2 h3 h4=>by
   obtain⟨_,hst,_⟩:=ht t ops[t] (by simp[h2])
   have hbit:Nat.testBit ((masks ops).getD t 0) i=false:=by
    cases hb:Nat.testBit ((masks ops).getD t 0) i with
    |false=>rfl
    |true=>
     have:=hd.behind hl (j:=t) (oj:=ops[t]) (by simp[h2]) hb
     rw[this]at h3;cases h3
   rcases h4 with h4|h4
   ·rcases hk with hk|hk
    ·have:=range_one ht hlt h2 hk.1 hk.2 h4.1 h4.2;omega
    ·have:=touch_lt ht hlt (.inr hk)
     have:=trace_le' ht (show i+1≤t by omega) (by omega);omega
   ·rcases hst with ⟨_,_,_,_,g⟩|⟨_,_,_,_,g,_⟩|⟨_,_,V,H2,l,vis,g1,_,_,g2,g3,_⟩
    ·rw[g]at h4;simp at h4
    ·rw[g]at h4;simp at h4
    ·rcases hk with hk|hk
     ·rcases g1 k (g2 k h4).2.2 with q|⟨u,q1,q2,q3,q4⟩
      ·omega
      ·have:=range_one ht hlt (by omega) hk.1 hk.2 q3 q4
       subst this
       rw[hbit]at q2;cases q2
     ·have hsee:Sees (seen i) k:=by
       rcases hstep with ⟨_,_,_,_,g⟩|⟨_,_,_,_,g,_⟩|⟨_,_,_,_,_,_,_,_,_,q,_⟩
       ·rw[g]at hk;simp at hk
       ·rw[g]at hk;simp at hk
       ·exact(q k hk).1
      exact(g3 i h1 hbit).2 k h4 hsee
  have lastI:∀ k,Touch heaps tch i k→Last ops heaps tch (listed.setIfInBounds i true) k i:=fun k hk=>by
   refine⟨hlt,by rw[set_getD hlt',if_pos rfl],hk,fun t h1 h2 h3=>?_⟩
   rw[set_getD hlt',if_neg (by omega)]at h3
   exact after k hk t h1 h2 h3
  have lastN:∀ k,¬ Touch heaps tch i k→∀ t,Last ops heaps tch (listed.setIfInBounds i true) k t↔Last ops heaps tch listed k t:=fun k hk t=>by
   constructor
   ·rintro ⟨h1,h2,h3,h4⟩
    have hne:t≠i:=fun e=>by subst e;exact hk h3
    rw[set_getD hlt',if_neg hne]at h2
    exact⟨h1,h2,h3,fun u g1 g2 g3=>h4 u g1 g2 (set_true hlt' g3)⟩
   ·rintro ⟨h1,h2,h3,h4⟩
    refine⟨h1,set_true hlt' h2,h3,fun u g1 g2 g3=>?_⟩
    rw[set_getD hlt']at g3
    split at g3
    ·rename_i e;subst e;exact hk
    ·exact h4 u g1 g2 g3
  have noN:∀ k,¬ Touch heaps tch i k→(NoT ops heaps tch (listed.setIfInBounds i true) k↔NoT ops heaps tch listed k):=fun k hk=>by
   constructor
   ·intro h t h1 h2; exact h t h1 (set_true hlt' h2)
   ·intro h t h1 h2
    rw[set_getD hlt']at h2
    split at h2
    ·rename_i e;subst e;exact hk
    ·exact h t h1 h2
  have noI:∀ k,Touch heaps tch i k→¬ NoT ops heaps tch (listed.setIfInBounds i true) k:=fun k hk h=>h i hlt (by rw[set_getD hlt',if_pos rfl]) hk
  have lastEq:∀ k,Touch heaps tch i k→∀ t,Last ops heaps tch (listed.setIfInBounds i true) k t→t=i:=fun k hk t h=>by
   have hI:=lastI k hk; rcases Nat.lt_trichotomy t i with g|g|g
   ·exact absurd hk (h.2.2.2 i g hlt hI.2.1)
   ·exact g
   ·exact absurd h.2.2.1 (hI.2.2.2 t g h.1 h.2.1)
  have go:∀(V:Objs) (H2:AH) (lo':Nat) (ρ1:Map) (w':World) (v':Value),(∀ x,x∈V→x∈O∧x.1<(heaps i).next)→((lo'=lo∧∀ x,x∈V→x.1∈tch i)∨(lo'=(heaps i).next∧tch i=[]))→
    (∀ k,k∈tch i→k<(heaps i).next∧∀ o,(k,o)∈O→(k,o)∈V)→Next lo' (cut ρ (heaps i).next) ⟨(heaps i).next,V⟩ w ρ1 H2 w'→H2.next=(heaps (i+1)).next→VRel ρ1 (vals i) v'→
    (∀ x,Touch heaps tch i x.1→(x∈(heaps (i+1)).objs↔x∈H2.objs))→wpAny C.P .any ops Q fuel (listed.setIfInBounds i true) (a.put o.dst v') w':=by
   intro V H2 lo' ρ1 w' v' hV hl2 hT n1 hn2 hv hobj
   let O':Objs:=(H2.objs.filter fun x=>decide (((heaps i).next≤x.1∧x.1<(heaps (i+1)).next)∨x.1∈tch i))++O.filter fun x=>decide (x.1 ∉ tch i)
   have hO':∀ x,x∈O'↔(x∈H2.objs∧(((heaps i).next≤x.1∧x.1<(heaps (i+1)).next)∨x.1∈tch i))∨(x∈O∧x.1 ∉ tch i):=fun x=>by
    simp only[O',List.mem_append,List.mem_filter,decide_eq_true_eq]
   obtain⟨ρ',a1,a2,a3,a4,a5,a6⟩:=advance hd.nx hn0 hni hnz hlo hV hl2 hT noneR n1 hn2 hO'
   have notO:∀ x,x∈O→x.1 ∉ tch i→¬ Touch heaps tch i x.1:=fun x hx hn hT2=>by
    rcases hT2 with h|h
    ·obtain⟨s,e1,_⟩:=hd.nx.inv.rel.obj x.1 x.2 hx
     rw[noneR x.1 h.1 h.2]at e1
     cases e1
    ·exact hn h
   refine hnext ρ' O' _ w' (hd.put ht hok ho hl hpre ?_ a2 (fun x=>?_) a1 (fun t h0 h1 k h2 h3=>?_) (fun x hx t hL s hs=>?_) (fun x hx hN s hs=>?_))
   ·exact hv.mono fun k q hk=>cut_some.2 ⟨by rw[← hn2];exact n1.inv.lt hk,a3 k q hk⟩
   ·rw[hO' x]
    constructor
    ·rintro (⟨h1,h2⟩|⟨h1,h2⟩)
     ·exact .inl ⟨i,lastI x.1 h2,(hobj x h2).2 h1⟩
     ·have hnt:=notO x h1 h2
      rcases(hd.obj x).1 h1 with ⟨t,g1,g2⟩|⟨g1,g2⟩
      ·exact .inl ⟨t,(lastN x.1 hnt t).2 g1,g2⟩
      ·exact .inr ⟨(noN x.1 hnt).2 g1,g2⟩
    ·rcases Classical.em (Touch heaps tch i x.1) with hT2|hT2
     ·rintro (⟨t,g1,g2⟩|⟨g1,g2⟩)
      ·have:=lastEq x.1 hT2 t g1
       subst this; exact .inl ⟨(hobj x hT2).1 g2,hT2⟩
      ·exact absurd g1 (noI x.1 hT2)
     ·rintro (⟨t,g1,g2⟩|⟨g1,g2⟩)
      ·exact .inr ⟨(hd.obj x).2 (.inl ⟨t,(lastN x.1 hT2 t).1 g1,g2⟩),fun h=>hT2 (.inr h)⟩
      ·exact .inr ⟨(hd.obj x).2 (.inr ⟨(noN x.1 hT2).1 g1,g2⟩),fun h=>hT2 (.inr h)⟩
   ·rw[set_getD hlt']at h1
    by_cases hti:t=i
    ·rw[if_pos hti]at h1;cases h1
    ·rw[if_neg hti]at h1
     rw[a4 k fun g=>hti (range_one ht h0 hlt h2 h3 g.1 g.2)]
     exact hd.non t h0 h1 k h2 h3
   ·rcases(hO' x).1 hx with ⟨h1,h2⟩|⟨h1,h2⟩
    ·have:=lastEq x.1 h2 t hL
     subst this
     obtain⟨s',e1,e2⟩:=n1.inv.rel.obj x.1 x.2 h1
     have e3:=a3 _ _ e1
     rw[hs]at e3
     cases e3
     exact e2.mono fun k q hk=>cut_some.2 ⟨by rw[← hn2];exact n1.inv.lt hk,a3 k q hk⟩
    ·have hnt:=notO x h1 h2; have hs':ρ x.1=some s:=by
      rw[a4 x.1 fun g=>hnt (.inl g)]at hs;exact hs
     have e:=hd.hasL x h1 t ((lastN x.1 hnt t).1 hL) s hs'
     exact(e.mono (cut_mono a2 (Nat.le_refl _))).heap (a6 x s h1 h2 hs')
   ·rcases(hO' x).1 hx with ⟨h1,h2⟩|⟨h1,h2⟩
    ·exact absurd hN (noI x.1 h2)
    ·have hnt:=notO x h1 h2; have hs':ρ x.1=some s:=by
      rw[a4 x.1 fun g=>hnt (.inl g)]at hs;exact hs
     have e:=hd.has0 x h1 ((noN x.1 hnt).1 hN) s hs'
     exact(e.mono (cut_mono a2 (Nat.le_refl _))).heap (a6 x s h1 h2 hs')
  have invV:∀ V:Objs,(∀ x,x∈V→x∈O∧x.1<(heaps i).next∧∀ s,ρ x.1=some s→OHas (cut ρ (heaps i).next) x.2 s w)→Inv (cut ρ (heaps i).next) ⟨(heaps i).next,V⟩ w:=fun V hV=>
   ⟨fun k hk=>by
     cases hc:cut ρ (heaps i).next k with
     |none=>rfl
     |some s=>have:=(cut_some.1 hc).1;simp only at hk;omega,
    fun k o' hm'=>(hV _ hm').2.1,
    fun k o' o'' h1 h2=>hd.nx.inv.one k o' o'' (hV _ h1).1 (hV _ h2).1,
    ⟨fun k o' hm'=>by
     obtain⟨q1,q2,q3⟩:=hV _ hm'
     obtain⟨s,e1,e2⟩:=hd.nx.inv.rel.obj k o' q1
     exact⟨s,cut_some.2 ⟨q2,e1⟩,q3 s e1⟩,
     fun k o' k' o'' s s' h1 h2 h3 h4 h5=>hd.nx.inv.rel.inj k o' k' o'' s s' (hV _ h1).1 (hV _ h2).1 (cut_some.1 h3).2 (cut_some.1 h4).2 h5⟩⟩
  unfold wpOp
  rw[ho]
  simp only
  rcases hstep with ⟨hwant,hv,hh,hse,hte⟩|⟨hwant,hw,hh,hse,hte,H2,hH2,hop⟩|⟨hwant,hw,V,H2,lo',vis,hvis,hV,hlo',htch,hpair,hle,hH2,hobj,hop⟩
  ·rw[if_neg (by rw[wantE_sound hwant hread];exact Bool.false_ne_true)]
   have nt:∀ k,¬ Touch heaps tch i k:=fun k h=>by
    rcases h with h|h
    ·rw[hh]at h;omega
    ·rw[hte]at h;simp at h
   refine hnext ρ O _ w (hd.put ht hok ho hl hpre (by rw[hv];exact .tuple .nil) (fun _ _ h=>h) (fun x=>?_) hd.nx (fun t h0 h1 k h2 h3=>?_) (fun x hx t hL s hs=>hd.hasL x hx t ((lastN x.1 (nt _) t).1 hL) s hs) (fun x hx hN s hs=>hd.has0 x hx ((noN x.1 (nt _)).1 hN) s hs))
   ·rw[hd.obj x]
    unfold ObjP
    rw[noN x.1 (nt _)]
    simp only[lastN x.1 (nt _)]
   ·rw[set_getD hlt']at h1
    split at h1
    ·cases h1
    ·exact hd.non t h0 h1 k h2 h3
  ·rw[if_pos (wantE_sound hwant hread)]
   have hinv':=invV [] (fun x hx=>by simp at hx); refine .inl (hop hinv' hread _ Q fun ρ1 w' v' n1 n2=>?_); refine go [] H2 (heaps i).next ρ1 w' v' (fun x hx=>by simp at hx) (.inr ⟨rfl,hte⟩) (fun k hk=>by rw[hte]at hk;simp at hk) n1 (by rw[hh];exact hH2) n2 (fun x hT=>?_); rcases hT with h|h
   ·rw[hh]at h;omega
   ·rw[hte]at h;simp at h
  ·rw[if_pos (wantE_sound hwant hread)]
   have klt:∀ k,vis k→k<(heaps i).next:=fun k hk=>by
    rcases hvis k hk with g|⟨t,q1,q2,q3,q4⟩
    ·omega
    ·have:=trace_le' ht (show t+1≤i by omega) (by omega);omega
   have before:∀ k,Sees (seen i) k→vis k→∀ t,t<i→Touch heaps tch t k→listed.getD t true=true:=fun k hs hk t h1 h2=>by
    rcases h2 with h2|h2
    ·rcases hvis k hk with g|⟨u,q1,q2,q3,q4⟩
     ·have:=trace_le' ht (Nat.zero_le t) (by omega);omega
     ·have:=range_one ht (by omega) (by omega) h2.1 h2.2 q3 q4
      subst this; exact hd.bits ho hpre q2
    ·cases hb:Nat.testBit ((masks ops).getD i 0) t with
     |true=>exact hd.bits ho hpre hb
     |false=>exact absurd hs ((hpair t h1 hb).1 k h2)
   have behind:∀ k,Sees (seen i) k→vis k→∀ t,i<t→t<ops.size→listed.getD t true=true→¬ Touch heaps tch t k:=fun k hs hk t h1 h2 h3 h4=>by
    rcases h4 with h4|h4
    ·have:=klt k hk
     have:=trace_le' ht (show i≤t by omega) (by omega);omega
    ·obtain⟨_,hst,_⟩:=ht t ops[t] (by simp[h2])
     rcases hst with ⟨_,_,_,_,g⟩|⟨_,_,_,_,g,_⟩|⟨_,_,V,H2,l,vis,_,_,_,_,g3,_⟩
     ·rw[g]at h4;simp at h4
     ·rw[g]at h4;simp at h4
     ·cases hb:Nat.testBit ((masks ops).getD t 0) i with
      |true=>
       have:=hd.behind hl (j:=t) (oj:=ops[t]) (by simp[h2]) hb
       rw[this]at h3;cases h3
      |false=>exact(g3 i h1 hb).2 k h4 hs
   have canon:∀ x,Sees (seen i) x.1→vis x.1→(x∈O↔x∈(heaps i).objs)∧(x∈O→∀ s,ρ x.1=some s→OHas (cut ρ (heaps i).next) x.2 s w):=fun x hs hk=>by
    rcases last_of (P:=fun t=>Touch heaps tch t x.1) i with ⟨t,h1,h2,h3⟩|h1
    ·have hL:Last ops heaps tch listed x.1 t:=⟨by omega,before x.1 hs hk t h1 h2,h2,fun t' g1 g2 g3=>by
      rcases Nat.lt_trichotomy t' i with q|q|q
      ·exact h3 t' g1 q
      ·subst q;rw[hl]at g3;cases g3
      ·exact behind x.1 hs hk t' q g2 g3⟩
     refine⟨⟨fun hx=>?_,fun hx=>(hd.obj x).2 (.inl ⟨t,hL,chain_back' ht (by omega) (by omega) (fun u g1 g2=>h3 u (by omega) g2) hx⟩)⟩,fun hx s hs2=>?_⟩
     ·rcases(hd.obj x).1 hx with ⟨u,g1,g2⟩|⟨g1,_⟩
      ·have:u=t:=by
        rcases Nat.lt_trichotomy u t with q|q|q
        ·exact absurd h2 (g1.2.2.2 t q hL.1 hL.2.1)
        ·exact q
        ·exact absurd g1.2.2.1 (hL.2.2.2 u q g1.1 g1.2.1)
       subst this; exact chain_on' ht (by omega) (by omega) (touch_lt ht (by omega) h2) (fun v g3 g4=>h3 v (by omega) g4) g2
      ·exact absurd h2 (g1 t hL.1 hL.2.1)
     ·exact(hd.hasL x hx t hL s hs2).mono (cut_mono (fun _ _ h=>h) (trace_le' ht (by omega) (by omega)))
    ·have hN:NoT ops heaps tch listed x.1:=fun t g1 g2 g3=>by
      rcases Nat.lt_trichotomy t i with q|q|q
      ·exact h1 t q g3
      ·subst q;rw[hl]at g2;cases g2
      ·exact behind x.1 hs hk t q g1 g2 g3
     refine⟨⟨fun hx=>?_,fun hx=>(hd.obj x).2 (.inr ⟨hN,chain_back' ht (Nat.zero_le _) (by omega) (fun u _ g2=>h1 u g2) hx⟩)⟩,fun hx s hs2=>?_⟩
     ·rcases(hd.obj x).1 hx with ⟨u,g1,g2⟩|⟨_,g2⟩
      ·exact absurd g1.2.2.1 (hN u g1.1 g1.2.1)
      ·exact chain_on' ht (Nat.zero_le _) (by omega) (hi.wf x.1 x.2 g2) (fun u _ g2=>h1 u g2) g2
     ·exact(hd.has0 x hx hN s hs2).mono (cut_mono (fun _ _ h=>h) hn0)
   have hVO:∀ x,x∈V→x∈O∧x.1<(heaps i).next∧∀ s,ρ x.1=some s→OHas (cut ρ (heaps i).next) x.2 s w:=fun x hx=>by
    obtain⟨q1,q2,q3⟩:=(hV x).1 hx
    obtain⟨c1,c2⟩:=canon x q2 q3
    exact⟨c1.2 q1,klt x.1 q3,c2 (c1.2 q1)⟩
   refine .inl (hop (invV V hVO) (Nat.le_trans hlo hn0) hread _ Q fun ρ1 w' v' n1 n2=>?_)
   refine go V H2 lo' ρ1 w' v' (fun x hx=>⟨(hVO x hx).1,(hVO x hx).2.1⟩) ?_ (fun k hk=>⟨(htch k hk).2.1,fun o' ho'=>?_⟩) n1 hH2.symm n2 (fun x hT=>?_)
   ·rcases hlo' with ⟨h1,h2⟩|h1
    ·refine .inl ⟨h1,fun x hx=>?_⟩
     have:=((hV x).1 hx).2.1
     rw[h2]at this
     exact any_beq.1 this
    ·exact .inr h1
   ·obtain⟨q1,q2,q3⟩:=htch k hk
    exact(hV (k,o')).2 ⟨(canon (k,o') q1 q3).1.1 ho',q1,q3⟩
   ·rw[hobj x]
    constructor
    ·rintro (⟨g,_⟩|⟨_,g1,g2⟩)
     ·exact g
     ·rcases hT with h|h
      ·omega
      ·exact absurd h g1
    ·intro g; exact .inl ⟨g,by rw[← hH2];exact hT⟩
end
end Go.Vm
