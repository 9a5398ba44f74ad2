/- A part; no conditions. -/
import GoSem.Core.Value
import Derived.Deep.MidRow
import Derived.Orders
import Derived.Below
import Derived.KernelRfl
import Derived.WalkLawsBesides
import Derived.Laws.FloatArith
set_option maxRecDepth 1000000
set_option maxHeartbeats 1000000
set_option linter.all false
open Nat renaming beq->N9,le_refl->L9
open Bool renaming and_eq_true->B9
open Go renaming Value->V9,World->W9,TypeId->I9,IntKind->K9
namespace Go.Vm
theorem cG{a b c:Rat}(h:a<=b)(hc:0<=c):a*c<=b*c:=Rat.mul_le_mul_of_nonneg_right h hc
theorem dI{a b c:Rat}(h:a<=b)(hc:0<=c):c*a<=c*b:=Rat.mul_le_mul_of_nonneg_left h hc
theorem bN{a b:Rat}(h:a<b):a<=b:=Rat.le_of_lt h
theorem bU{a b:Rat}(ha:0<=a)(hb:0<=b):0<=a*b:=Rat.mul_nonneg ha hb
theorem cR{a b c:Rat}(h:a<=b)(g:b<=c):a<=c:=Rat.le_trans h g
theorem fZ{a:Rat}(h:0<=a):a.abs=a:=Rat.abs_of_nonneg h
theorem gO{n m:Nat}(h:N9 n m=true):n=m:=Nat.eq_of_beq_eq_true h
theorem kK{n m:Nat}(h:Nat.ble n m=true):n<=m:=Nat.le_of_ble_eq_true h
abbrev bW6(R:Type):=Nat->Nat->Bool->Option R
abbrev vT(R:Type):=Nat->Nat->Int->Option R
abbrev KNN(R:Type):=Nat->Nat->Option R
abbrev KVO(R:Type):=Go.Value->Option R
abbrev KBO(R:Type):=Bool->Option R
abbrev KIO(R:Type):=Int->Option R
abbrev KNO(R:Type):=Nat->Option R
theorem T7.{u}{α:Sort u}(a b:α):cond true a b=a:=rfl
theorem F7.{u}{α:Sort u}(a b:α):cond false a b=b:=rfl
theorem D7{p:Prop}[Decidable p](h:p):decide p=true:=decide_eq_true h
theorem E7{p:Prop}[Decidable p](h:¬p):decide p=false:=decide_eq_false h
inductive qQ where
 |cells (cs:List V9) (sz:Nat)
 |map (kk:K9) (es:List (Int×V9))
abbrev dF:=List (Nat×qQ)
def aCg(k:Nat):dF->Option qQ
 |[]=>none
 |(j,o)::r=>bif N9 j k then some o else aCg k r
def drop(k:Nat):dF->dF
 |[]=>[]
 |(j,o)::r=>bif N9 j k then drop k r else(j,o)::drop k r
structure AH where
 next:Nat
 objs:dF
theorem kS{k:Nat}{o:qQ}:∀{S:dF},aCg k S=some o->(k,o)∈S
 |[],h=>by simp[aCg]at h
 |(j,u)::r,h=>by
  unfold aCg at h;cases hb:N9 j k with
  |true=>simp[hb]at h;have:=gO hb;subst this;subst h;simp
  |false=>simp[hb]at h;exact List.mem_cons_of_mem _ (kS h)
theorem mW{k:Nat}{x:Nat×qQ}:∀{S:dF},x∈drop k S↔x∈S/\x.1≠k
 |[]=>by simp[drop]
 |(j,u)::r=>by
  unfold drop;cases hb:N9 j k with
  |true=>
   have:=gO hb;subst this;simp only[T7,mW (S:=r),List.mem_cons];constructor;· rintro ⟨h1,h2⟩;exact⟨.inr h1,h2⟩
   ·rintro ⟨rfl|h1,h2⟩
    ·exact absurd rfl h2
    ·exact⟨h1,h2⟩
  |false=>
   have hne:j≠k:=λe=>by subst e;simp at hb
   simp only[F7,List.mem_cons,mW (S:=r)];constructor
   ·rintro (rfl|⟨h1,h2⟩)
    ·exact⟨.inl rfl,hne⟩
    ·exact⟨.inr h1,h2⟩
   ·rintro ⟨rfl|h1,h2⟩
    ·exact .inl rfl
    ·exact .inr ⟨h1,h2⟩
structure aC3 where
 b:Nat
 d:Nat
 x:Nat
abbrev Map:=Nat->Option aC3
def bE3(b:Nat):Bool:=(Ieee.double.read b).isNaN
def bUo(p a:Nat):Bool:=match p with
 |0=>bE3 a
 |n+1=>N9 n a
mutual
inductive dW(ρ:Map):V9->V9->Prop
 |bool (b:Bool):dW ρ (.bool b) (.bool b)
 |int (k:K9) (n:Int):dW ρ (.int k n) (.int k n)
 |float (n:Nat):dW ρ (.float .f64 n) (.float .f64 n)
 |nan (n:Nat) {b:Nat} (h:bE3 b=true):dW ρ (.float .f32 n) (.float .f64 b)
 |complex (a b:Nat):dW ρ (.complex .f64 a b) (.complex .f64 a b)
 |cnan {p q a b:Nat} (h:bUo p a=true) (g:bUo q b=true):dW ρ (.complex .f32 p q) (.complex .f64 a b)
 |string (s:ByteArray):dW ρ (.string s) (.string s)
 |nilPtr:dW ρ (.pointer none) (.pointer none)
 |ptr {k o:Nat} {s:aC3} (h:ρ k=some s):dW ρ (.pointer (some ⟨k,o,none⟩)) (.pointer (some ⟨s.b,s.d+o,none⟩))
 |nilSlice (n c:Nat):dW ρ (.slice none n c) (.slice none n c)
 |slice {k o n c:Nat} {s:aC3} (h:ρ k=some s):dW ρ (.slice (some ⟨k,o,none⟩) n c) (.slice (some ⟨s.b,s.d+o,none⟩) n (c+s.x))
 |nilMap:dW ρ (.map none) (.map none)
 |map {k:Nat} {s:aC3} (h:ρ k=some s):dW ρ (.map (some k)) (.map (some s.b))
 |nilFunc:dW ρ .nilFunc .nilFunc
 |func (f:Fn) {as as' bs bs':List V9} (ha:cF ρ as as') (hb:cF ρ bs bs'):dW ρ (.func f ⟨as⟩ ⟨bs⟩) (.func f ⟨as'⟩ ⟨bs'⟩)
 |nilIface:dW ρ .nilIface .nilIface
 |iface (t:I9) {v v':V9} (h:dW ρ v v'):dW ρ (.iface t v) (.iface t v')
 |agg {as as':List V9} (h:cF ρ as as'):dW ρ (.agg ⟨as⟩) (.agg ⟨as'⟩)
 |tuple {as as':List V9} (h:cF ρ as as'):dW ρ (.tuple ⟨as⟩) (.tuple ⟨as'⟩)
inductive cF(ρ:Map):List V9->List V9->Prop
 |nil:cF ρ [] []
 |cons {v v':V9} {vs vs':List V9} (h:dW ρ v v') (hs:cF ρ vs vs'):cF ρ (v::vs) (v'::vs')
end
section
variable{ρ ρ':Map}
mutual
theorem dW.mono(hρ:∀k p,ρ k=some p->ρ' k=some p):∀{v v':V9},dW ρ v v'->dW ρ' v v'
 |_,_,.bool b=>.bool b
 |_,_,.int k n=>.int k n
 |_,_,.float n=>.float n
 |_,_,.nan n h=>.nan n h
 |_,_,.complex a b=>.complex a b
 |_,_,.cnan h g=>.cnan h g
 |_,_,.string s=>.string s
 |_,_,.nilPtr=>.nilPtr
 |_,_,.ptr h=>.ptr (hρ _ _ h)
 |_,_,.nilSlice n c=>.nilSlice n c
 |_,_,.slice h=>.slice (hρ _ _ h)
 |_,_,.nilMap=>.nilMap
 |_,_,.map h=>.map (hρ _ _ h)
 |_,_,.nilFunc=>.nilFunc
 |_,_,.func f ha hb=>.func f (cF.mono hρ ha) (cF.mono hρ hb)
 |_,_,.nilIface=>.nilIface
 |_,_,.iface t h=>.iface t (dW.mono hρ h)
 |_,_,.agg h=>.agg (cF.mono hρ h)
 |_,_,.tuple h=>.tuple (cF.mono hρ h)
theorem cF.mono(hρ:∀k p,ρ k=some p->ρ' k=some p):∀{v v':List V9},cF ρ v v'->cF ρ' v v'
 |_,_,.nil=>.nil
 |_,_,.cons h hs=>.cons (dW.mono hρ h) (cF.mono hρ hs)
end
end
mutual
def inn(n:Nat):V9->Bool
 |.pointer (some a)=>Nat.blt a.block n
 |.slice (some a) _ _=>Nat.blt a.block n
 |.map (some k)=>Nat.blt k n
 |.chan _=>false
 |.float .f32 _=>false
 |.complex .f32 _ _=>false
 |.func _ as bs=>aR7 n as&&aR7 n bs
 |.iface _ v=>inn n v
 |.agg as=>aR7 n as
 |.tuple as=>aR7 n as
 |_=>true
def aR7(n:Nat):Array V9->Bool
 |⟨l⟩=>kZ n l
def kZ(n:Nat):List V9->Bool
 |[]=>true
 |v::r=>inn n v&&kZ n r
end
section
variable{ρ ρ':Map}{n:Nat}
mutual
theorem dW.scope(hρ:∀k,k<n->ρ' k=ρ k):∀{v v':V9},dW ρ' v v'->inn n v=true->dW ρ v v'
 |_,_,.bool b,_=>.bool b
 |_,_,.int k n,_=>.int k n
 |_,_,.float n,_=>.float n
 |_,_,.nan n h,_=>.nan n h
 |_,_,.complex a b,_=>.complex a b
 |_,_,.cnan h g,_=>.cnan h g
 |_,_,.string s,_=>.string s
 |_,_,.nilPtr,_=>.nilPtr
 |_,_,.ptr h,hs=>.ptr (by rw[<-hρ _ (by simpa[inn,Nat.blt_eq] using hs)];exact h)
 |_,_,.nilSlice n c,_=>.nilSlice n c
 |_,_,.slice h,hs=>.slice (by rw[<-hρ _ (by simpa[inn,Nat.blt_eq] using hs)];exact h)
 |_,_,.nilMap,_=>.nilMap
 |_,_,.map h,hs=>.map (by rw[<-hρ _ (by simpa[inn,Nat.blt_eq] using hs)];exact h)
 |_,_,.nilFunc,_=>.nilFunc
 |_,_,.func f ha hb,hs=>by simp only[inn,aR7,B9]at hs;exact .func f (cF.scope hρ ha hs.1) (cF.scope hρ hb hs.2)
 |_,_,.nilIface,_=>.nilIface
 |_,_,.iface t h,hs=>.iface t (dW.scope hρ h (by simpa[inn] using hs))
 |_,_,.agg h,hs=>.agg (cF.scope hρ h (by simpa[inn,aR7] using hs))
 |_,_,.tuple h,hs=>.tuple (cF.scope hρ h (by simpa[inn,aR7] using hs))
theorem cF.scope(hρ:∀k,k<n->ρ' k=ρ k):∀{v v':List V9},cF ρ' v v'->kZ n v=true->cF ρ v v'
 |_,_,.nil,_=>.nil
 |_,_,.cons h hs,hx=>by simp only[kZ,B9]at hx;exact .cons (dW.scope hρ h hx.1) (cF.scope hρ hs hx.2)
end
end
def flat(v:V9):Bool:=inn 0 v
theorem dW.flat_eq{ρ:Map}{v v':V9}(h:dW ρ v v'):flat v=true->v'=v:=by
 unfold flat;refine dW.rec (motive_1:=λv v' _=>inn 0 v=true->v'=v) (motive_2:=λvs vs' _=>kZ 0 vs=true->vs'=vs)
  ?_ ?_ ?_ ?_ ?_ ?_ ?_ ?_ ?_ ?_ ?_ ?_ ?_ ?_ ?_ ?_ ?_ ?_ ?_ ?_ ?_ h
 all_goals intros
 all_goals simp_all [inn,aR7,kZ]
theorem cF.flat_eq{ρ:Map}:∀{v v':List V9},cF ρ v v'->kZ 0 v=true->v'=v
 |_,_,.nil,_=>rfl
 |_,_,.cons h hs,hx=>by simp only[kZ,B9]at hx;rw[h.flat_eq hx.1,hs.flat_eq hx.2]
mutual
theorem dW.ofFlat(ρ:Map):∀{v:V9},inn 0 v=true->dW ρ v v
 |.bool b,_=>.bool b
 |.int k n,_=>.int k n
 |.float .f64 n,_=>.float n
 |.float .f32 n,h=>by simp[inn]at h
 |.complex .f64 a b,_=>.complex a b
 |.complex .f32 a b,h=>by simp[inn]at h
 |.string s,_=>.string s
 |.pointer none,_=>.nilPtr
 |.pointer (some a),h=>by simp[inn]at h
 |.slice none n c,_=>.nilSlice n c
 |.slice (some a) _ _,h=>by simp[inn]at h
 |.map none,_=>.nilMap
 |.map (some a),h=>by simp[inn]at h
 |.chan _,h=>by simp[inn]at h
 |.nilFunc,_=>.nilFunc
 |.func f ⟨as⟩ ⟨bs⟩,h=>by simp only[inn,aR7,B9]at h;exact .func f (cF.ofFlat ρ h.1) (cF.ofFlat ρ h.2)
 |.nilIface,_=>.nilIface
 |.iface t v,h=>.iface t (dW.ofFlat ρ (by simpa[inn] using h))
 |.agg ⟨as⟩,h=>.agg (cF.ofFlat ρ (by simpa[inn,aR7] using h))
 |.tuple ⟨as⟩,h=>.tuple (cF.ofFlat ρ (by simpa[inn,aR7] using h))
theorem cF.ofFlat(ρ:Map):∀{v:List V9},kZ 0 v=true->cF ρ v v
 |[],_=>.nil
 |v::r,h=>by simp only[kZ,B9]at h;exact .cons (dW.ofFlat ρ h.1) (cF.ofFlat ρ h.2)
end
theorem aQ4{s t:Nat}(h:s≠t):N9 s t=false:=by
 cases hb:N9 s t with
 |true=>exact absurd (gO hb) h
 |false=>rfl
inductive pV(ρ:Map)(kk:K9):List (Int×V9)->List MapEntry->Prop
 |nil:pV ρ kk [] []
 |cons {n:Int} {v v':V9} {b:Nat} {es:List (Int×V9)} {es':List MapEntry} (h:dW ρ v v') (hs:pV ρ kk es es'):
   pV ρ kk ((n,v)::es) ({ key:=.int kk n,val:=v',born:=b }::es')
theorem pV.mono{ρ ρ':Map}{kk:K9}(hρ:∀k p,ρ k=some p->ρ' k=some p):∀{es es'},pV ρ kk es es'->pV ρ' kk es es'
 |_,_,.nil=>.nil
 |_,_,.cons h hs=>.cons (h.mono hρ) (hs.mono hρ)
def aV8(w:W9)(b:Nat)(arr:Array V9)(ty:I9)(d n:Nat):Prop:=(∃fr:Nat×Nat,w.heap[b]?=some (.cells arr ty fr))/\∀j,j<n->w.frozen? ⟨b,d+j,none⟩=false
theorem aV8.fresh{w:W9}{b:Nat}{arr:Array V9}{ty:I9}(h:w.heap[b]?=some (.cells arr ty (0,0)))(d n:Nat):aV8 w b arr ty d n:=
 ⟨⟨_,h⟩,λj _=>by simp[W9.frozen?,h]⟩
theorem aV8.heap{w w':W9}{b:Nat}{arr:Array V9}{ty:I9}{d n:Nat}(e:w'.heap[b]?=w.heap[b]?)(h:aV8 w b arr ty d n):aV8 w' b arr ty d n:=
 ⟨let ⟨fr,g⟩:=h.1;⟨fr,e.trans g⟩,λj hj=>by have:=h.2 j hj;unfold W9.frozen? at this⊢;simp only at this⊢;rw[e];exact this⟩
theorem aV8.put{w w':W9}{b:Nat}{arr arr':Array V9}{ty:I9}{d n d' n':Nat}{fr:Nat×Nat}(h:aV8 w b arr ty d n)(e:w.heap[b]?=some (.cells arr ty fr))(e':w'.heap[b]?=some (.cells arr' ty fr))(hd:d=d')(hn:n'<=n):aV8 w' b arr' ty d' n':=
 ⟨⟨fr,e'⟩,λj hj=>by subst hd;have:=h.2 j (by omega);unfold W9.frozen? at this⊢;simp only[e,e']at this⊢;exact this⟩
def yW(ρ:Map)(o:qQ)(s:aC3)(w:W9):Prop:=
 match o with
 |.cells cs sz=>∃(arr:Array V9)(ty:I9)(cs':List V9),aV8 w s.b arr ty s.d (cs.length+s.x*sz)/\cF ρ cs cs'/\(∀(i:Nat) v,cs'[i]?=some v->arr[s.d+i]?=some v)/\s.d+cs.length+s.x*sz<=arr.size/\(sz=0->s.x=0)
 |.map kk es=>∃(arr:Array MapEntry)(clock:Nat),w.heap[s.b]?=some (.map arr clock)/\pV ρ kk es arr.toList
theorem yW.mono{ρ ρ':Map}(hρ:∀k p,ρ k=some p->ρ' k=some p){o:qQ}{s:aC3}{w:W9}(h:yW ρ o s w):yW ρ' o s w:=by
 cases o with
 |cells cs=>obtain⟨arr,ty,cs',h1,h2,h3⟩:=h;exact⟨arr,ty,cs',h1,h2.mono hρ,h3⟩
 |map kk es=>obtain⟨arr,cl,h1,h2⟩:=h;exact⟨arr,cl,h1,h2.mono hρ⟩
theorem yW.heap{ρ:Map}{o:qQ}{s:aC3}{w w':W9}(e:w'.heap[s.b]?=w.heap[s.b]?)(h:yW ρ o s w):yW ρ o s w':=by
 cases o with
 |cells cs=>obtain⟨arr,ty,cs',h1,h2,h3⟩:=h;exact⟨arr,ty,cs',h1.heap e,h2,h3⟩
 |map kk es=>obtain⟨arr,cl,h1,h2⟩:=h;exact⟨arr,cl,e.trans h1,h2⟩
theorem yW.lt{ρ:Map}{o:qQ}{s:aC3}{w:W9}(h:yW ρ o s w):s.b<w.heap.size:=by
 have:(w.heap[s.b]?).isSome=true:=by
  cases o with
  |cells cs=>obtain⟨arr,ty,cs',⟨⟨fr,h1⟩,_⟩,_⟩:=h;simp[h1]
  |map kk es=>obtain⟨arr,cl,h1,_⟩:=h;simp[h1]
 rcases Nat.lt_or_ge s.b w.heap.size with h' | h';· exact h'
 ·simp[Array.getElem?_eq_none h']at this
structure bJv(ρ:Map)(S:dF)(w:W9):Prop where
 obj:∀k o,(k,o)∈S->∃s,ρ k=some s/\yW ρ o s w
 inj:∀k o k' o' s s',(k,o)∈S->(k',o')∈S->ρ k=some s->ρ k'=some s'->s.b=s'.b->k=k'
theorem bJv.sub{ρ:Map}{S T:dF}{w:W9}(h:bJv ρ S w)(hs:∀x,x∈T->x∈S):bJv ρ T w:=
 ⟨λk o hm=>h.obj k o (hs _ hm),λk o k' o' b d h1 h2=>h.inj k o k' o' b d (hs _ h1) (hs _ h2)⟩
structure Inv(ρ:Map)(H:AH)(w:W9):Prop where
 dom:∀k,H.next<=k->ρ k=none
 wf:∀k o,(k,o)∈H.objs->k<H.next
 one:∀k o o',(k,o)∈H.objs->(k,o')∈H.objs->o=o'
 rel:bJv ρ H.objs w
theorem Inv.lt{ρ:Map}{H:AH}{w:W9}(h:Inv ρ H w){k:Nat}{p:aC3}(hk:ρ k=some p):k<H.next:=by
 rcases Nat.lt_or_ge k H.next with h' | h';· exact h'
 ·rw[h.dom k h']at hk;cases hk
structure Next(lo:Nat)(ρ:Map)(H:AH)(w:W9)(ρ':Map)(H':AH)(w':W9):Prop where
 inv:Inv ρ' H' w'
 same:∀k,k<H.next->ρ' k=ρ k
 nx:H.next<=H'.next
 size:w.heap.size<=w'.heap.size
 os:w'.os=w.os
 tape:w'.tape=w.tape
 output:w'.output=w.output
 keep:∀b,b<w.heap.size->(∀k o s,lo<=k->(k,o)∈H.objs->ρ k=some s->s.b≠b)->w'.heap[b]?=w.heap[b]?
 own:∀k o s,lo<=k->(k,o)∈H'.objs->ρ' k=some s->w.heap.size<=s.b\/∃k' o' s',lo<=k'/\(k',o')∈H.objs/\ρ k'=some s'/\s'.b=s.b
 old:∀k o,k<lo->((k,o)∈H'.objs↔(k,o)∈H.objs)
section
variable{lo:Nat}{ρ ρ' ρ'':Map}{H H' H'':AH}{w w' w'':W9}
theorem Next.ext(h:Next lo ρ H w ρ' H' w')(hi:Inv ρ H w):∀k p,ρ k=some p->ρ' k=some p:=λk p hk=>by rw[h.same k (hi.lt hk)];exact hk
theorem Next.refl(hi:Inv ρ H w):Next lo ρ H w ρ H w:=
 ⟨hi,λ_ _=>rfl,L9 _,L9 _,rfl,rfl,rfl,λ_ _ _=>rfl,λk o s h1 h2 h3=>.inr ⟨k,o,s,h1,h2,h3,rfl⟩,λ_ _ _=>Iff.rfl⟩
theorem Next.trans(h:Next lo ρ H w ρ' H' w')(g:Next lo ρ' H' w' ρ'' H'' w''):Next lo ρ H w ρ'' H'' w'' where
 inv:=g.inv
 same k hk:=(g.same k (Nat.lt_of_lt_of_le hk h.nx)).trans (h.same k hk)
 nx:=Nat.le_trans h.nx g.nx
 size:=Nat.le_trans h.size g.size
 os:=g.os.trans h.os
 tape:=g.tape.trans h.tape
 output:=g.output.trans h.output
 keep b hb hn:=by
  rw[<-h.keep b hb hn];refine g.keep b (Nat.lt_of_lt_of_le hb h.size) λk o s hk hm he e=>?_
  rcases h.own k o s hk hm he with h1|⟨k',o',s',h1,h2,h3,h4⟩;· omega
  ·exact hn k' o' s' h1 h2 h3 (h4.trans e)
 own k o s hk hm he:=by
  rcases g.own k o s hk hm he with h1|⟨k',o',s',h1,h2,h3,h4⟩;· exact .inl (Nat.le_trans h.size h1)
  ·rcases h.own k' o' s' h1 h2 h3 with h5|⟨k2,o2,s2,g1,g2,g3,g4⟩
   ·exact .inl (h4 ▸ h5)
   ·exact .inr ⟨k2,o2,s2,g1,g2,g3,g4.trans h4⟩
 old k o hk:=(g.old k o hk).trans (h.old k o hk)
theorem Next.weaken{lo':Nat}(hl:lo'<=lo)(h:Next lo ρ H w ρ' H' w')(hi:Inv ρ H w):Next lo' ρ H w ρ' H' w':=
 {h with
  keep:=λb hb hn=>h.keep b hb λk o s hk=>hn k o s (Nat.le_trans hl hk)
  own:=λk o s hk hm he=>by
   rcases Nat.lt_or_ge k lo with h1|h1;· have hm':=(h.old k o h1).1 hm;refine .inr ⟨k,o,s,hk,hm',?_,rfl⟩;rw[<-h.same k (hi.wf k o hm')];exact he
   ·rcases h.own k o s h1 hm he with h2|⟨k',o',s',h2,h3,h4⟩
    ·exact .inl h2
    ·exact .inr ⟨k',o',s',Nat.le_trans hl h2,h3,h4⟩
  old:=λk o hk=>h.old k o (Nat.lt_of_lt_of_le hk hl) }
theorem bJv.heap(h:bJv ρ H.objs w)(e:∀b:Nat,w'.heap[b]?=w.heap[b]?):bJv ρ H.objs w':=
 ⟨λk o hm=>let ⟨s,h1,h2⟩:=h.obj k o hm;⟨s,h1,h2.heap (e s.b)⟩,h.inj⟩
theorem Next.draw(hi:Inv ρ H w):Next lo ρ H w ρ H w.drew:=
 {Next.refl (lo:=lo) hi with inv:=⟨hi.dom,hi.wf,hi.one,hi.rel.heap (w':=w.drew) λ_=>rfl⟩ }
theorem Next.forget(hi:Inv ρ H w)(h:Next H.next ρ H w ρ' H' w'):Next lo ρ H w ρ H w':=by
 have hk:∀k o s,(k,o)∈H.objs->ρ k=some s->w'.heap[s.b]?=w.heap[s.b]?:=λk o s hm he=>by
  obtain⟨s',e1,e2⟩:=hi.rel.obj k o hm;rw[e1]at he;obtain rfl:s'=s:=by simpa using he
  refine h.keep s'.b e2.lt λk' o' s'' hl hm'=>?_
  exact absurd (hi.wf k' o' hm') (by omega)
 exact
 {inv:=⟨hi.dom,hi.wf,hi.one,⟨λk o hm=>let ⟨s,h1,h2⟩:=hi.rel.obj k o hm;⟨s,h1,h2.heap (hk k o s hm h1)⟩,hi.rel.inj⟩⟩
  same:=λ_ _=>rfl
  nx:=L9 _
  size:=h.size
  os:=h.os
  tape:=h.tape
  output:=h.output
  keep:=λb hb _=>h.keep b hb λk o s hk hm=>absurd (hi.wf k o hm) (by omega)
  own:=λk o s hk hm he=>.inr ⟨k,o,s,hk,hm,he,rfl⟩
  old:=λ_ _ _=>Iff.rfl }
def upd(ρ:Map)(k:Nat)(p:aC3):Map:=λj=>bif N9 j k then some p else ρ j
theorem pA(ρ:Map)(k:Nat)(p:aC3):upd ρ k p k=some p:=by simp[upd]
theorem wT{ρ:Map}{k j:Nat}{p:aC3}(h:j≠k):upd ρ k p j=ρ j:=by have:N9 j k=false:=aQ4 h;simp[upd,this]
theorem aF2(hi:Inv ρ H w)(p:aC3):∀k q,ρ k=some q->upd ρ H.next p k=some q:=λk q hk=>by rw[wT (Nat.ne_of_lt (hi.lt hk))];exact hk
def AH.push(H:AH)(o:qQ):AH:=⟨H.next+1,(H.next,o)::H.objs⟩
theorem Next.add(hi:Inv ρ H w)(hlo:lo<=H.next)(o:qQ)(p:aC3)(S:dF)(hS:∀x,x∈S->x∈H.objs)(hkeep:∀k o,k<lo->(k,o)∈H.objs->(k,o)∈S)(hsz:w.heap.size<=w'.heap.size)(hos:w'.os=w.os)(htape:w'.tape=w.tape)(hout:w'.output=w.output)(hheap:∀b:Nat,b<w.heap.size->b≠p.b->w'.heap[b]?=w.heap[b]?)(hown:w.heap.size<=p.b\/∃k' o' s',lo<=k'/\(k',o')∈H.objs/\ρ k'=some s'/\s'.b=p.b)(hfree:∀k o s,(k,o)∈S->ρ k=some s->s.b≠p.b)(ho:yW (upd ρ H.next p) o p w'):
  Next lo ρ H w (upd ρ H.next p) ⟨H.next+1,(H.next,o)::S⟩ w':=by
 have hext:=aF2 hi p;refine
 {inv:=⟨λk hk=>?_,λk o' hm=>?_,λk o' o'' h1 h2=>?_,⟨λk o' hm=>?_,λk o' k' o'' s s' h1 h2 h3 h4 h5=>?_⟩⟩
  same:=λk hk=>wT (Nat.ne_of_lt hk)
  nx:=Nat.le_succ _
  size:=hsz
  os:=hos
  tape:=htape
  output:=hout
  keep:=λb hb hn=>hheap b hb λe=>?_
  own:=λk o' s hk hm he=>?_
  old:=λk o' hk=>?_ }
 ·simp only at hk;rw[wT (by omega)];exact hi.dom k (by omega)
 ·simp only[List.mem_cons,Prod.mk.injEq]at hm⊢;rcases hm with ⟨rfl,_⟩|hm
  ·omega
  ·have:=hi.wf k o' (hS _ hm);omega
 ·simp only[List.mem_cons,Prod.mk.injEq]at h1 h2;rcases h1 with ⟨rfl,rfl⟩|h1
  ·rcases h2 with ⟨_,rfl⟩|h2
   ·rfl
   ·exact absurd (hi.wf _ _ (hS _ h2)) (by omega)
  ·rcases h2 with ⟨rfl,rfl⟩|h2
   ·exact absurd (hi.wf _ _ (hS _ h1)) (by omega)
   ·exact hi.one k _ _ (hS _ h1) (hS _ h2)
 ·simp only[List.mem_cons,Prod.mk.injEq]at hm;rcases hm with ⟨rfl,rfl⟩|hm
  ·exact⟨p,pA _ _ _,ho⟩
  ·obtain⟨s,h1,h2⟩:=hi.rel.obj k o' (hS _ hm);exact⟨s,hext _ _ h1,(h2.mono hext).heap (hheap s.b h2.lt (hfree k o' s hm h1))⟩
 ·simp only[List.mem_cons,Prod.mk.injEq]at h1 h2;rcases h1 with ⟨rfl,rfl⟩|h1
  ·rcases h2 with ⟨rfl,_⟩|h2
   ·rfl
   ·rw[pA]at h3;rw[wT (Nat.ne_of_lt (hi.wf k' o'' (hS _ h2)))]at h4;cases h3;exact absurd h5.symm (hfree k' o'' s' h2 h4)
  ·rcases h2 with ⟨rfl,rfl⟩|h2
   ·rw[pA]at h4;rw[wT (Nat.ne_of_lt (hi.wf k o' (hS _ h1)))]at h3;cases h4;exact absurd h5 (hfree k o' s h1 h3)
   ·rw[wT (Nat.ne_of_lt (hi.wf k o' (hS _ h1)))]at h3;rw[wT (Nat.ne_of_lt (hi.wf k' o'' (hS _ h2)))]at h4;exact hi.rel.inj k o' k' o'' s s' (hS _ h1) (hS _ h2) h3 h4 h5
 ·subst e;rcases hown with h|⟨k',o',s',h1,h2,h3,h4⟩
  ·omega
  ·exact hn k' o' s' h1 h2 h3 h4
 ·simp only[List.mem_cons,Prod.mk.injEq]at hm;rcases hm with ⟨rfl,rfl⟩|hm
  ·rw[pA]at he;cases he;exact hown
  ·rw[wT (Nat.ne_of_lt (hi.wf k o' (hS _ hm)))]at he;exact .inr ⟨k,o',s,hk,hS _ hm,he,rfl⟩
 ·simp only[List.mem_cons,Prod.mk.injEq];constructor
  ·rintro (⟨rfl,_⟩|h)
   ·omega
   ·exact hS _ h
  ·intro h;exact .inr (hkeep k o' hk h)
theorem Next.alloc(hi:Inv ρ H w)(hlo:lo<=H.next)(o:qQ)(ob:Obj)(x:Nat)(ho:yW (upd ρ H.next ⟨w.heap.size,0,x⟩) o ⟨w.heap.size,0,x⟩ (w.alloc ob)):
  Next lo ρ H w (upd ρ H.next ⟨w.heap.size,0,x⟩) (H.push o) (w.alloc ob):=by
 refine Next.add hi hlo o ⟨w.heap.size,0,x⟩ H.objs (λ_ h=>h) (λ_ _ _ h=>h) (by simp) rfl rfl rfl (λb hb _=>?_) (.inl (L9 _)) (λk o s hm he=>?_) ho;· simp only[W9.alloc,Array.getElem?_push];rw[if_neg (by omega)]
 ·obtain⟨s',e1,e2⟩:=hi.rel.obj k o hm;rw[e1]at he;cases he;exact Nat.ne_of_lt e2.lt
def AH.put(H:AH)(k:Nat)(o:qQ):AH:=⟨H.next,(k,o)::drop k H.objs⟩
theorem Next.write(hi:Inv ρ H w){k:Nat}{o:qQ}(hm:(k,o)∈H.objs)(hlo:lo<=k){s:aC3}(hb:ρ k=some s)(o':qQ)(hsz:w'.heap.size=w.heap.size)(hos:w'.os=w.os)(htape:w'.tape=w.tape)(hout:w'.output=w.output)(hheap:∀b':Nat,b'≠s.b->w'.heap[b']?=w.heap[b']?)(ho:yW ρ o' s w'):Next lo ρ H w ρ (H.put k o') w':=by
 refine
 {inv:=⟨hi.dom,λj u hu=>?_,λj u u' h1 h2=>?_,⟨λj u hu=>?_,λj u j' u' s1 s1' h1 h2 h3 h4 h5=>?_⟩⟩
  same:=λ_ _=>rfl
  nx:=L9 _
  size:=Nat.le_of_eq hsz.symm
  os:=hos
  tape:=htape
  output:=hout
  keep:=λb' hb' hn=>hheap b' λe=>hn k o s hlo hm hb e.symm
  own:=λj u s' hj hu he=>?_
  old:=λj u hj=>?_ }
 all_goals simp only[AH.put,List.mem_cons,Prod.mk.injEq,mW]at *
 ·rcases hu with ⟨rfl,_⟩|hu
  ·exact hi.wf _ _ hm
  ·exact hi.wf _ _ hu.1
 ·rcases h1 with ⟨rfl,rfl⟩|h1
  ·rcases h2 with ⟨_,rfl⟩|h2
   ·rfl
   ·exact absurd rfl h2.2
  ·rcases h2 with ⟨rfl,rfl⟩|h2
   ·exact absurd rfl h1.2
   ·exact hi.one j _ _ h1.1 h2.1
 ·rcases hu with ⟨rfl,rfl⟩|hu
  ·exact⟨s,hb,ho⟩
  ·obtain⟨s1,e1,e2⟩:=hi.rel.obj j u hu.1;exact⟨s1,e1,e2.heap (hheap s1.b λe=>hu.2 (hi.rel.inj j u k o s1 s hu.1 hm e1 hb e))⟩
 ·have hx:∀j u,((j=k/\u=o')\/((j,u)∈H.objs/\j≠k))->∃u',(j,u')∈H.objs:=λj u h=>by
   rcases h with ⟨rfl,_⟩|h;· exact⟨o,hm⟩
   ·exact⟨u,h.1⟩
  obtain⟨v1,g1⟩:=hx j u h1;obtain⟨v2,g2⟩:=hx j' u' h2;exact hi.rel.inj j v1 j' v2 s1 s1' g1 g2 h3 h4 h5
 ·rcases hu with ⟨rfl,_⟩|hu
  ·exact .inr ⟨j,o,s',hj,hm,he,rfl⟩
  ·exact .inr ⟨j,u,s',hj,hu.1,he,rfl⟩
 ·constructor
  ·rintro (⟨rfl,_⟩|h)
   ·omega
   ·exact h.1
  ·intro h;exact .inr ⟨h,by omega⟩
end
abbrev Env:=List (Nat×V9)
def rZ(t:Nat):Env->Option V9
 |[]=>none
 |(s,v)::r=>bif N9 s t then some v else rZ t r
def dedup(seen:Nat):Env->Env
 |[]=>[]
 |(s,v)::r=>bif Nat.testBit seen s then dedup seen r else(s,v)::dedup (seen |||(1 <<< s)) r
theorem aBe(t:Nat):∀(e:Env)(seen:Nat),Nat.testBit seen t=false->rZ t (dedup seen e)=rZ t e
 |[],_,_=>rfl
 |(s,v)::r,seen,h=>by
  unfold dedup;cases hs:Nat.testBit seen s with
  |true=>
   have hne:s≠t:=λe=>by subst e;rw[h]at hs;cases hs
   have hb:N9 s t=false:=aQ4 hne;simp only[T7,rZ,hb,F7];exact aBe t r seen h
  |false=>
   simp only[F7,rZ];cases hb:N9 s t with
   |true=>rfl
   |false=>
    have hne:s≠t:=λe=>by subst e;simp at hb
    simp only[F7];refine aBe t r _ ?_;rw[Nat.testBit_or,h,Nat.one_shiftLeft,Nat.testBit_two_pow];simpa using hne
def fW(ρ:Map)(e:Env)(tmps:Array V9):Prop:=∀t v,rZ t e=some v->∃v',tmps[t]?=some v'/\dW ρ v v'
theorem fW.mono{ρ ρ':Map}{e:Env}{tmps:Array V9}(hρ:∀k p,ρ k=some p->ρ' k=some p)(h:fW ρ e tmps):fW ρ' e tmps:=λt v hv=>
 let ⟨v',h1,h2⟩:=h t v hv;⟨v',h1,h2.mono hρ⟩
theorem fW.dedup{ρ:Map}{e:Env}{tmps:Array V9}(h:fW ρ e tmps):fW ρ (dedup 0 e) tmps:=λt v hv=>by rw[aBe t e 0 (by simp)]at hv;exact h t v hv
theorem fW.put{ρ:Map}{e:Env}{tmps:Array V9}(h:fW ρ e tmps){d:Nat}(hd:d<tmps.size){v v':V9}(hv:dW ρ v v'):
  fW ρ ((d,v)::e) (tmps.setIfInBounds d v'):=λt u hu=>by
 unfold rZ at hu;cases hb:N9 d t with
 |true=>have:=gO hb;subst this;simp[hb]at hu;subst hu;exact⟨v',by simp[hd],hv⟩
 |false=>
  have hne:d≠t:=λe=>by subst e;simp at hb
  simp only[hb,F7]at hu;obtain⟨u',h1,h2⟩:=h t u hu;exact⟨u',by rw[Array.getElem?_setIfInBounds_ne hne];exact h1,h2⟩
open Ieee
def bH{R:Type}(n:Nat)(k:Nat->R):R:=Nat.casesOn n (k 0) λm=>k (Nat.succ m)
theorem cB{R:Type}(n:Nat)(k:Nat->R):bH n k=k n:=by cases n<;>rfl
def xT(w:Nat):Nat:=Nat.mod (Nat.div w 4503599627370496) 2048
def kT(w:Nat):Nat:=bif N9 (xT w) 0 then Nat.mod w 4503599627370496 else Nat.add 4503599627370496 (Nat.mod w 4503599627370496)
def aCk(w:Nat):Nat:=Nat.sub (xT w) 1
def aHq(w:Nat):Bool:=N9 (Nat.mod (Nat.div w 9223372036854775808) 2) 1
def aA0(w:Nat):Bool:=Nat.blt (xT w) 2047
theorem nb(a b:Nat):N9 a b=decide (a=b):=by
 cases h:N9 a b with
 |true=>have:=gO h;simp[this]
 |false=>
       have:a≠b:=λe=>by subst e;simp at h
       simp[this]
theorem nl(a b:Nat):Nat.blt a b=decide (a<b):=by
 cases h:Nat.blt a b with
 |true=>
      have:a<b:=by simpa using h
      simp[this]
 |false=>
       have:¬a<b:=λe=>by rw[show Nat.blt a b=true by simpa using e]at h;cases h
       simp[this]
theorem nle(a b:Nat):Nat.ble a b=decide (a<=b):=by
 cases h:Nat.ble a b with
 |true=>
      have:a<=b:=by simpa using h
      simp[this]
 |false=>
       have:¬a<=b:=λe=>by rw[show Nat.ble a b=true by simpa using e]at h;cases h
       simp[this]
theorem mA{w:Nat}(h:aA0 w=true):double.read w=.number (aHq w) (kT w) ((aCk w:Int)-1074):=by
 have e1:double.signWeight=9223372036854775808:=by decide
 have e2:double.binade=4503599627370496:=by decide
 have e3:double.infRung=9218868437227405312:=by decide
 have e4:double.leastPlace=-1074:=by decide
 unfold aA0 at h;rw[nl]at h;have hE:xT w<2047:=by simpa using h
 have hEe:xT w=w/4503599627370496%2048:=rfl;have hs:aHq w=(w/9223372036854775808%2==1):=by unfold aHq;rw[nb];show decide (w/9223372036854775808%2=1)=_;by_cases g:w/9223372036854775808%2=1<;>simp[g]
 unfold Format.read;simp only[e1,e2,e3,e4];rw[<-hs];unfold kT aCk;rw[nb];by_cases h0:xT w=0
 ·have:w%9223372036854775808<4503599627370496:=by omega
  have e:w%9223372036854775808=w%4503599627370496:=by omega
  rw[if_pos this];simp only[h0,decide_true,T7];rw[e];rfl
 ·have h1:¬(w%9223372036854775808<4503599627370496):=by omega
  have h2:w%9223372036854775808<9218868437227405312:=by omega
  rw[if_neg h1,if_pos h2];simp only[h0,decide_false,F7];have q1:w%9223372036854775808%4503599627370496=w%4503599627370496:=by omega
  have q2:w%9223372036854775808/4503599627370496=xT w:=by omega
  rw[q1,q2];have q3:(-1074:Int)+((xT w-1:Nat):Int)=(((xT w-1:Nat)):Int)-1074:=by omega
  rw[q3];rfl
def sF(k:Nat)(m acc:Nat)(next:Nat->Nat->Nat):Nat:=bH (Nat.shiftRight m k) λh=>bif N9 h 0 then next m acc else next h (Nat.add acc k)
def lg7(m acc:Nat):Nat:=sF 64 m acc λm acc=>sF 32 m acc λm acc=>sF 16 m acc λm acc=>sF 8 m acc λm acc=>sF 4 m acc λm acc=>sF 2 m acc λm acc=>sF 1 m acc λm acc=>acc
def lgW(m:Nat):Nat:=
 bif N9 (Nat.shiftRight m 128) 0 then lg7 m 0 else
 bif N9 (Nat.shiftRight m 4096) 0 then sF 2048 m 0 λm acc=>sF 1024 m acc λm acc=>sF 512 m acc λm acc=>sF 256 m acc λm acc=>sF 128 m acc lg7
 else Nat.log2 m
theorem aU7{m k:Nat}(h:m>>>k≠0):m.log2=(m>>>k).log2+k:=by
 rw[Nat.shiftRight_eq_div_pow]at h⊢;have hm:m≠0:=λe=>by subst e;simp at h
 have hp:0<2^k:=Nat.two_pow_pos k;have h1:=Nat.log2_self_le h;have h2:m/2^k<2^((m/2^k).log2+1):=Nat.lt_log2_self;have h3:2^((m/2^k).log2+k)<=m:=by rw[Nat.pow_add];exact Nat.le_trans (Nat.mul_le_mul_right _ h1) (Nat.div_mul_le_self m _)
 have h4:m<2^((m/2^k).log2+k+1):=by rw[show(m/2^k).log2+k+1=(m/2^k).log2+1+k by omega,Nat.pow_add];exact(Nat.div_lt_iff_lt_mul hp).1 h2
 have h5:=(Nat.le_log2 hm).2 h3;have h6:=(Nat.log2_lt hm).2 h4;omega
theorem pZ{k n m acc:Nat}{next:Nat->Nat->Nat}(hm:m<2^(n+k))(hk:n<=k)(hnext:∀m acc,m<2^k->next m acc=m.log2+acc)(hkk:n=k):sF k m acc next=m.log2+acc:=by
 unfold sF;rw[cB,nb];show(bif decide (m>>>k=0) then next m acc else next (m>>>k) (acc+k))=_;by_cases h:m>>>k=0
 ·have:decide (m>>>k=0)=true:=by simp[h]
  rw[this];rw[Nat.shiftRight_eq_div_pow]at h;have hp:0<2^k:=Nat.two_pow_pos k;have:m<2^k:=by
   rcases Nat.lt_or_ge m (2^k) with g|g;· exact g
   ·have:=Nat.div_pos g hp;omega
  exact hnext m acc this
 ·have:decide (m>>>k=0)=false:=by simp[h]
  rw[this,F7,hnext,aU7 h];· omega
  ·rw[Nat.shiftRight_eq_div_pow];subst hkk;rw[Nat.pow_add]at hm;exact(Nat.div_lt_iff_lt_mul (Nat.two_pow_pos n)).2 hm
theorem bIl{m acc:Nat}(h:m<2^128):lg7 m acc=m.log2+acc:=by
 unfold lg7;refine pZ (n:=64) h (by decide) (λm acc h=>?_) rfl;refine pZ (n:=32) h (by decide) (λm acc h=>?_) rfl;refine pZ (n:=16) h (by decide) (λm acc h=>?_) rfl;refine pZ (n:=8) h (by decide) (λm acc h=>?_) rfl;refine pZ (n:=4) h (by decide) (λm acc h=>?_) rfl;refine pZ (n:=2) h (by decide) (λm acc h=>?_) rfl;refine pZ (n:=1) h (by decide) (λm acc h=>?_) rfl;have:m=0\/m=1:=by omega
 rcases this with rfl|rfl;· simp
 ·rw[show Nat.log2 1=0 by decide];omega
theorem aHr{m k:Nat}(h:m>>>k=0):m<2^k:=by
 rw[Nat.shiftRight_eq_div_pow]at h;rcases Nat.lt_or_ge m (2^k) with g|g;· exact g
 ·have:=Nat.div_pos g (Nat.two_pow_pos k);omega
theorem bTq{j k:Nat}(hj:j=k+k){next:Nat->Nat->Nat}(hnext:∀m acc,m<2^k->next m acc=m.log2+acc):∀m acc,m<2^j->sF k m acc next=m.log2+acc:=λm acc h=>by subst hj;exact pZ (n:=k) h (L9 _) hnext rfl
theorem aZk(m:Nat):lgW m=m.log2:=by
 have u128:∀m acc,m<2^128->lg7 m acc=m.log2+acc:=λm acc h=>bIl h
 generalize h1:(4096:Nat)=k4096;have u256:=bTq (j:=256) (k:=128) rfl u128;generalize h256:(256:Nat)=k256 at u256;have u512:=bTq (j:=512) (k:=k256) (by omega) u256;generalize h512:(512:Nat)=k512 at u512;have u1024:=bTq (j:=1024) (k:=k512) (by omega) u512;generalize h1024:(1024:Nat)=k1024 at u1024;have u2048:=bTq (j:=2048) (k:=k1024) (by omega) u1024;generalize h2048:(2048:Nat)=k2048 at u2048;have u4096:=bTq (j:=k4096) (k:=k2048) (by omega) u2048;unfold lgW;rw[nb,nb,h1,h256,h512,h1024,h2048];show(bif decide (m>>>128=0) then lg7 m 0 else bif decide (m>>>k4096=0) then _ else m.log2)=_;by_cases h:m>>>128=0
 ·have e:decide (m>>>128=0)=true:=by simp only[h,decide_true]
  rw[e,T7,bIl (aHr h)];omega
 ·have e:decide (m>>>128=0)=false:=by simp only[h,decide_false]
  rw[e,F7];by_cases h2:m>>>k4096=0
  ·have e2:decide (m>>>k4096=0)=true:=by simp only[h2,decide_true]
   rw[e2,T7];exact(u4096 m 0 (aHr h2)).trans (by omega)
  ·have e2:decide (m>>>k4096=0)=false:=by simp only[h2,decide_false]
   rw[e2];rfl
def bXc(n drop:Nat):Nat:=
 bH n λn=>bH drop λdrop=>bH (Nat.add (lgW n) 2) λlg=>bH (Nat.shiftLeft 1 (bif Nat.ble drop lg then drop else lg)) λg=>
 bH (Nat.div n g) λlow=>bH (Nat.mul 2 (Nat.mod n g)) λrest=>
 bif Nat.blt g rest then Nat.succ low else bif N9 g rest then(bif N9 (Nat.mod low 2) 1 then Nat.succ low else low) else low
theorem bKw(neg:Bool)(n drop:Nat):bXc n drop=Toward.even.cut neg n drop:=by
 unfold bXc Toward.cut;simp only[cB,nb,nl,nle,aZk];have hm:(bif decide (drop<=Nat.add n.log2 2) then drop else Nat.add n.log2 2)=min drop (n.log2+2):=by
  show(bif decide (drop<=n.log2+2) then drop else n.log2+2)=_;by_cases h:drop<=n.log2+2;· simp[h]
  ·simp[h];omega
 rw[hm];show(bif decide ((1 <<< min drop (n.log2+2))<2*(n%(1 <<< min drop (n.log2+2)))) then Nat.succ (n/(1 <<< min drop (n.log2+2))) else
  bif decide ((1 <<< min drop (n.log2+2))=2*(n%(1 <<< min drop (n.log2+2)))) then(bif decide (n/(1 <<< min drop (n.log2+2))%2=1) then Nat.succ (n/(1 <<< min drop (n.log2+2))) else n/(1 <<< min drop (n.log2+2))) else n/(1 <<< min drop (n.log2+2)))=_
 generalize 1 <<< min drop (n.log2+2)=g;generalize n/g=low;generalize 2*(n%g)=rest;by_cases h1:g<rest;· simp[h1]
 ·by_cases h2:g=rest
  ·by_cases h3:low%2=1
   ·simp[h1,h2,h3]
   ·simp[h1,h2,h3]
  ·simp[h1,h2]
def bM3(c52 c63 ci B:Nat)(neg:Bool)(m P:Nat):Nat:=
 bH m λm=>bH P λP=>bif N9 m 0 then(bif neg then c63 else 0) else
 bH (Nat.add P (lgW m)) λQ=>bH (bif Nat.ble (Nat.add B 52) (Nat.add Q 1074) then Nat.sub Q 52 else Nat.sub B 1074) λL=>
 bH (bif Nat.ble L P then Nat.shiftLeft m (Nat.sub P L) else bXc m (Nat.sub L P)) λkept=>
 bH (Nat.add (Nat.mul (Nat.sub (Nat.add L 1074) B) c52) kept) λr=>
 bH (bif Nat.ble r ci then r else ci) λr=>
 bif neg then Nat.add c63 r else r
def aPj(B:Nat)(neg:Bool)(m P:Nat):Nat:=bM3 4503599627370496 9223372036854775808 9218868437227405312 B neg m P
theorem bDo(neg:Bool)(q:Nat):Toward.even.cut neg q 0=q:=by unfold Toward.cut;simp[Nat.mod_one]
theorem bE5{c52 c63 ci B:Nat}(e1:double.signWeight=c63)(e2:double.binade=c52)(e3:double.infRung=ci)(hB:1126<=B)(neg:Bool)(m P:Nat):bM3 c52 c63 ci B neg m P=double.nearest neg m ((P:Int)-B):=by
 have e4:double.leastPlace=-1074:=by decide
 have e5:double.fractionBits=52:=rfl;unfold bM3 Format.nearest Format.word;simp only[cB,nb,nle,aZk,e1,e2,e3,e4,e5];by_cases hm:m=0
 ·rw[if_pos hm];have:decide (m=0)=true:=by simp[hm]
  rw[this];cases neg<;>simp
 ·rw[if_neg hm];have:decide (m=0)=false:=by simp[hm]
  rw[this];simp only[F7];have hL:(((bif decide (Nat.add B 52<=Nat.add (Nat.add P m.log2) 1074) then Nat.sub (Nat.add P m.log2) 52 else Nat.sub B 1074):Nat):Int)=max ((P:Int)-B+m.log2-(52:Nat)) (-1074)+B:=by
   show(((bif decide (B+52<=P+m.log2+1074) then P+m.log2-52 else B-1074):Nat):Int)=_;by_cases h:B+52<=P+m.log2+1074;· simp only[h,decide_true,T7];omega
   ·simp only[h,decide_false,F7];omega
  generalize (bif decide (Nat.add B 52<=Nat.add (Nat.add P m.log2) 1074) then Nat.sub (Nat.add P m.log2) 52 else Nat.sub B 1074)=L at *
  have hmax:max ((P:Int)-B+m.log2-(52:Nat)) (-1074)=(L:Int)-B:=by omega
  rw[hmax];have hk:(bif decide (L<=P) then Nat.shiftLeft m (Nat.sub P L) else bXc m (Nat.sub L P))=Toward.even.cut neg (m <<< ((P:Int)-B-((L:Int)-B)).toNat) ((L:Int)-B-((P:Int)-B)).toNat:=by
   by_cases h:L<=P
   ·simp only[h,decide_true,T7];have d0:((L:Int)-B-((P:Int)-B)).toNat=0:=by omega
    have d1:((P:Int)-B-((L:Int)-B)).toNat=P-L:=by omega
    rw[d0,d1,bDo];rfl
   ·simp only[h,decide_false,F7];have d0:((L:Int)-B-((P:Int)-B)).toNat=L-P:=by omega
    have d1:((P:Int)-B-((L:Int)-B)).toNat=0:=by omega
    rw[d0,d1,bKw neg];rfl
  rw[hk];generalize Toward.even.cut neg (m <<< ((P:Int)-B-((L:Int)-B)).toNat) ((L:Int)-B-((P:Int)-B)).toNat=kept;have hr:((L:Int)-B - -1074).toNat=L+1074-B:=by omega
  rw[hr];have hrr:Nat.add (Nat.mul (Nat.sub (Nat.add L 1074) B) c52) kept=(L+1074-B)*c52+kept:=rfl;rw[hrr];generalize (L+1074-B)*c52+kept=r;have hmin:(bif decide (r<=ci) then r else ci)=min r ci:=by
   by_cases h:r<=ci;· simp only[h,decide_true,T7];omega
   ·simp only[h,decide_false,F7];omega
  rw[hmin];cases neg;· rfl
  ·rfl
theorem aJn{B:Nat}(hB:1126<=B)(neg:Bool)(m P:Nat):aPj B neg m P=double.nearest neg m ((P:Int)-B):=
 bE5 (by decide) (by decide) (by decide) hB neg m P
def cAg(a b:Nat):Option Nat:=
 bif aA0 a&&aA0 b then bH (kT a) λma=>bH (kT b) λmb=>some (aPj 2148 (aHq a ^^ aHq b) (Nat.mul ma mb) (Nat.add (aCk a) (aCk b))) else double.mul a b
theorem bMz(a b:Nat):cAg a b=double.mul a b:=by
 unfold cAg;cases h:(aA0 a&&aA0 b) with
 |false=>rfl
 |true=>
  simp only[B9]at h;simp only[T7,cB];unfold Format.mul;rw[mA h.1,mA h.2,aJn (by decide)];have e:(((Nat.add (aCk a) (aCk b):Nat)):Int)-(2148:Nat)=(aCk a:Int)-1074+((aCk b:Int)-1074):=by show(((aCk a+aCk b:Nat)):Int)-(2148:Nat)=_;omega
  rw[e];rfl
def bYa(s t:Bool)(m n p q:Nat):Nat:=
 bH (bif Nat.ble p q then p else q) λbase=>bH (Nat.shiftLeft m (Nat.sub p base)) λx=>bH (Nat.shiftLeft n (Nat.sub q base)) λy=>
 bif s ^^ t then
  (bif Nat.blt y x then aPj 1126 s (Nat.sub x y) (Nat.add base 52) else bif Nat.blt x y then aPj 1126 t (Nat.sub y x) (Nat.add base 52) else 0)
 else aPj 1126 s (Nat.add x y) (Nat.add base 52)
theorem bBv(s t:Bool)(m n p q:Nat):(Datum.sum (.number s m ((p:Int)-1074)) (.number t n ((q:Int)-1074))).map double.write=some (bYa s t m n p q):=by
 unfold bYa Datum.sum;simp only[cB,nl,nle];have hb:min ((p:Int)-1074) ((q:Int)-1074)=((bif decide (p<=q) then p else q:Nat):Int)-1074:=by
  by_cases h:p<=q;· simp only[h,decide_true,T7];exact Int.min_eq_left (by omega)
  ·simp only[h,decide_false,F7];exact Int.min_eq_right (by omega)
 rw[hb];have hle:(bif decide (p<=q) then p else q)<=p/\(bif decide (p<=q) then p else q)<=q:=by
  by_cases h:p<=q
  ·have e:decide (p<=q)=true:=by simp[h]
   rw[e];exact⟨L9 _,h⟩
  ·have e:decide (p<=q)=false:=by simp[h]
   rw[e];exact⟨by simp only[F7];omega,L9 _⟩
 generalize (bif decide (p<=q) then p else q)=base at *
 have d1:((p:Int)-1074-((base:Int)-1074)).toNat=p-base:=by omega
 have d2:((q:Int)-1074-((base:Int)-1074)).toNat=q-base:=by omega
 rw[d1,d2];show Option.map double.write (some (Datum.number _ _ _))=some _;rw[Option.map_some];congr 1;show double.nearest _ _ _=_;have w1:∀(neg:Bool)(k:Nat),aPj 1126 neg k (Nat.add base 52)=double.nearest neg k ((base:Int)-1074):=λneg k=>by rw[aJn (by decide)];congr 1;show((base+52:Nat):Int)-(1126:Nat)=_;omega
 simp only[w1];show double.nearest (if signed s m (p-base)+signed t n (q-base)=0 then s&&t else decide (signed s m (p-base)+signed t n (q-base)<0)) (signed s m (p-base)+signed t n (q-base)).natAbs ((base:Int)-1074) =
  (bif s ^^ t then(bif decide (n <<< (q-base)<m <<< (p-base)) then double.nearest s (m <<< (p-base)-n <<< (q-base)) ((base:Int)-1074) else bif decide (m <<< (p-base)<n <<< (q-base)) then double.nearest t (n <<< (q-base)-m <<< (p-base)) ((base:Int)-1074) else 0)
  else double.nearest s (m <<< (p-base)+n <<< (q-base)) ((base:Int)-1074))
 unfold signed;generalize m <<< (p-base)=x;generalize n <<< (q-base)=y;have z0:double.nearest false 0 ((base:Int)-1074)=0:=by unfold Format.nearest Format.word;rw[if_pos rfl];rfl
 cases s<;>cases t
 ·simp only[Bool.false_eq_true,if_false,Bool.xor_self,F7];by_cases h:(x:Int)+y=0
  ·rw[if_pos h];have:((x:Int)+y).natAbs=x+y:=by omega
   rw[this];rfl
  ·rw[if_neg h];have:((x:Int)+y).natAbs=x+y:=by omega
   rw[this];have:decide ((x:Int)+y<0)=false:=by simp;omega
   rw[this]
 ·simp only[Bool.false_eq_true,if_false,if_true,Bool.false_xor,T7];by_cases h1:y<x
  ·rw[if_neg (by omega)];simp only[h1,decide_true,T7];have:((x:Int)+-(y:Int)).natAbs=x-y:=by omega
   rw[this];have:decide ((x:Int)+-(y:Int)<0)=false:=by simp;omega
   rw[this]
  ·by_cases h2:x<y
   ·rw[if_neg (by omega)];simp only[h1,h2,decide_true,decide_false,T7,F7];have:((x:Int)+-(y:Int)).natAbs=y-x:=by omega
    rw[this];have:decide ((x:Int)+-(y:Int)<0)=true:=by simp;omega
    rw[this]
   ·rw[if_pos (by omega)];simp only[h1,h2,decide_false,F7];have:((x:Int)+-(y:Int)).natAbs=0:=by omega
    rw[this];exact z0
 ·simp only[Bool.false_eq_true,if_false,if_true,Bool.xor_false,T7];by_cases h1:y<x
  ·rw[if_neg (by omega)];simp only[h1,decide_true,T7];have:(-(x:Int)+(y:Int)).natAbs=x-y:=by omega
   rw[this];have:decide (-(x:Int)+(y:Int)<0)=true:=by simp;omega
   rw[this]
  ·by_cases h2:x<y
   ·rw[if_neg (by omega)];simp only[h1,h2,decide_true,decide_false,T7,F7];have:(-(x:Int)+(y:Int)).natAbs=y-x:=by omega
    rw[this];have:decide (-(x:Int)+(y:Int)<0)=false:=by simp;omega
    rw[this]
   ·rw[if_pos (by omega)];simp only[h1,h2,decide_false,F7];have:(-(x:Int)+(y:Int)).natAbs=0:=by omega
    rw[this];exact z0
 ·simp only[if_true,Bool.xor_self,F7];by_cases h:-(x:Int)+-(y:Int)=0
  ·rw[if_pos h];have:(-(x:Int)+-(y:Int)).natAbs=x+y:=by omega
   rw[this];rfl
  ·rw[if_neg h];have:(-(x:Int)+-(y:Int)).natAbs=x+y:=by omega
   rw[this];have:decide (-(x:Int)+-(y:Int)<0)=true:=by simp;omega
   rw[this]
def bYi(a b:Nat):Option Nat:=
 bif aA0 a&&aA0 b then bH (kT a) λma=>bH (kT b) λmb=>bH (aCk a) λpa=>bH (aCk b) λpb=>some (bYa (aHq a) (aHq b) ma mb pa pb) else double.add a b
theorem bJ4(a b:Nat):bYi a b=double.add a b:=by
 unfold bYi;cases h:(aA0 a&&aA0 b) with
 |false=>rfl
 |true=>simp only[B9]at h;simp only[T7,cB];unfold Format.add;rw[mA h.1,mA h.2,bBv]
def cA5(a b:Nat):Option Nat:=
 bif aA0 a&&aA0 b then bH (kT a) λma=>bH (kT b) λmb=>bH (aCk a) λpa=>bH (aCk b) λpb=>some (bYa (aHq a) (!aHq b) ma mb pa pb) else double.sub a b
theorem bOq(a b:Nat):cA5 a b=double.sub a b:=by
 unfold cA5;cases h:(aA0 a&&aA0 b) with
 |false=>rfl
 |true=>simp only[B9]at h;simp only[T7,cB];unfold Format.sub;rw[mA h.1,mA h.2];show _=(Datum.sum (.number (aHq a) (kT a) ((aCk a:Int)-1074)) (.number (!aHq b) (kT b) ((aCk b:Int)-1074))).map double.write;rw[bBv]
def bYw(a b:Nat):Option Nat:=
 bif aA0 a&&aA0 b then bH (kT a) λm=>bH (kT b) λn=>
  bif N9 n 0 then double.div a b else
  bH (Nat.sub (Nat.add 54 (lgW n)) (lgW m)) λmore=>bH (Nat.shiftLeft m more) λd=>
  some (aPj 4000 (aHq a ^^ aHq b) (Nat.add (Nat.mul 2 (Nat.div d n)) (bif N9 (Nat.mod d n) 0 then 0 else 1)) (Nat.sub (Nat.add (aCk a) 3999) (Nat.add (aCk b) more)))
 else double.div a b
theorem bK2(a b:Nat):bYw a b=double.div a b:=by
 unfold bYw;cases h:(aA0 a&&aA0 b) with
 |false=>rfl
 |true=>
  simp only[B9]at h;simp only[T7,cB,nb,aZk];by_cases hn:kT b=0;· simp only[hn,decide_true,T7]
  ·simp only[hn,decide_false,F7];unfold Format.div;rw[mA h.1,mA h.2];unfold Datum.quotient;simp only[hn,if_false];show some _=some _;congr 1;rw[aJn (by decide)];show double.nearest _ _ _=double.nearest _ _ _;have hmm:Nat.sub (Nat.add 54 (kT b).log2) (kT a).log2=double.fractionBits+2+(kT b).log2-(kT a).log2:=rfl;rw[hmm];have hp:aCk b<=2046:=by
    have hb:=h.2;unfold aA0 at hb;rw[nl]at hb;have:xT b<2047:=by simpa using hb
    show xT b-1<=2046;omega
   have hl:(kT b).log2<=53:=by
    have:kT b<2^54:=by
     unfold kT;have:Nat.mod b 4503599627370496<4503599627370496:=Nat.mod_lt _ (by decide);cases N9 (xT b) 0;· show 4503599627370496+Nat.mod b 4503599627370496<2^54;omega
     ·show Nat.mod b 4503599627370496<2^54;omega
    have:=(Nat.log2_lt hn).2 this;omega
   have hf:double.fractionBits=52:=rfl;have hmore:double.fractionBits+2+(kT b).log2-(kT a).log2<=107:=by omega
   generalize double.fractionBits+2+(kT b).log2-(kT a).log2=more at *
   congr 1
   ·show 2*(kT a <<< more/kT b)+(bif decide (kT a <<< more%kT b=0) then 0 else 1)=_;by_cases g:kT a <<< more%kT b=0
    ·simp[g]
    ·have g2:((kT a <<< more)%kT b != 0)=true:=by simpa using g
     have g3:decide ((kT a <<< more)%kT b=0)=false:=by simpa using g
     rw[g2,g3];rfl
   ·show((aCk a+3999-(aCk b+more):Nat):Int)-(4000:Nat)=_;omega
def fbF(op:BinOp)(a b:Nat):Option Nat:=
 match op with
 |.add=>bYi a b
 |.sub=>cA5 a b
 |.mul=>cAg a b
 |.quo=>bYw a b
 |op=>floatBits op .f64 a b
theorem tV(op:BinOp)(a b:Nat):fbF op a b=floatBits op .f64 a b:=by
 unfold fbF;split;· rw[bJ4];rfl
 ·rw[bOq];rfl
 ·rw[bMz];rfl
 ·rw[bK2];rfl
 ·rfl
def aBq(a b:Nat):Option Ordering:=
 bif aA0 a&&aA0 b then
  bH (kT a) λm=>bH (kT b) λn=>bH (aCk a) λp=>bH (aCk b) λq=>
  bH (bif Nat.ble p q then p else q) λbase=>bH (Nat.shiftLeft m (Nat.sub p base)) λx=>bH (Nat.shiftLeft n (Nat.sub q base)) λy=>
  bif aHq a then
   (bif aHq b then(bif N9 x y then some .eq else bif Nat.blt y x then some .lt else some .gt)
    else(bif N9 x 0&&N9 y 0 then some .eq else some .lt))
  else
   (bif aHq b then(bif N9 x 0&&N9 y 0 then some .eq else some .gt)
    else(bif N9 x y then some .eq else bif Nat.blt x y then some .lt else some .gt))
 else double.order a b
theorem bKr(x y:Int):compare x y=if x<y then .lt else if x=y then .eq else .gt:=by show compareOfLessAndEq x y=_;rfl
theorem wK(a b:Nat):aBq a b=double.order a b:=by
 unfold aBq;cases h:(aA0 a&&aA0 b) with
 |false=>rfl
 |true=>
  simp only[B9]at h;simp only[T7,cB,nb,nl,nle];unfold Format.order;rw[mA h.1,mA h.2];unfold Datum.order;simp only;generalize aCk a=p;generalize aCk b=q;generalize kT a=m;generalize kT b=n;have hb:min ((p:Int)-1074) ((q:Int)-1074)=((bif decide (p<=q) then p else q:Nat):Int)-1074:=by
   by_cases h:p<=q;· simp only[h,decide_true,T7];exact Int.min_eq_left (by omega)
   ·simp only[h,decide_false,F7];exact Int.min_eq_right (by omega)
  rw[hb];have hle:(bif decide (p<=q) then p else q)<=p/\(bif decide (p<=q) then p else q)<=q:=by
   by_cases h:p<=q
   ·have e:decide (p<=q)=true:=by simp[h]
    rw[e];exact⟨L9 _,h⟩
   ·have e:decide (p<=q)=false:=by simp[h]
    rw[e];exact⟨by simp only[F7];omega,L9 _⟩
  generalize (bif decide (p<=q) then p else q)=base at *
  have d1:((p:Int)-1074-((base:Int)-1074)).toNat=p-base:=by omega
  have d2:((q:Int)-1074-((base:Int)-1074)).toNat=q-base:=by omega
  rw[d1,d2,bKr];unfold signed;show(bif aHq a then(bif aHq b then(bif decide (m <<< (p-base)=n <<< (q-base)) then some Ordering.eq else bif decide (n <<< (q-base)<m <<< (p-base)) then some .lt else some .gt) else(bif decide (m <<< (p-base)=0)&&decide (n <<< (q-base)=0) then some .eq else some .lt))
   else(bif aHq b then(bif decide (m <<< (p-base)=0)&&decide (n <<< (q-base)=0) then some .eq else some .gt) else(bif decide (m <<< (p-base)=n <<< (q-base)) then some .eq else bif decide (m <<< (p-base)<n <<< (q-base)) then some .lt else some .gt)))=_
  generalize m <<< (p-base)=x;generalize n <<< (q-base)=y;cases aHq a<;>cases aHq b
  ·simp only[F7,Bool.false_eq_true,if_false];by_cases g1:x=y
   ·subst g1;simp
   ·by_cases g2:x<y
    ·simp[g1,g2]
    ·have:¬((x:Int)<y):=by omega
     have:¬((x:Int)=y):=by omega
     rw[if_neg ‹_›,if_neg ‹_›];simp[g1,g2]
  ·simp only[F7,T7,Bool.false_eq_true,if_false,if_true];by_cases g1:x=0/\y=0
   ·obtain⟨rfl,rfl⟩:=g1;simp
   ·have g2:(decide (x=0)&&decide (y=0))=false:=by simp;omega
    rw[g2,if_neg (by omega),if_neg (by omega)];rfl
  ·simp only[F7,T7,Bool.false_eq_true,if_false,if_true];by_cases g1:x=0/\y=0
   ·obtain⟨rfl,rfl⟩:=g1;simp
   ·have g2:(decide (x=0)&&decide (y=0))=false:=by simp;omega
    rw[g2,if_pos (by omega)];rfl
  ·simp only[T7,if_true];by_cases g1:x=y
   ·subst g1;simp
   ·by_cases g2:y<x
    ·have q1:-(x:Int) < -(y:Int):=by omega
     simp[g1,g2]
    ·have q1:¬(-(x:Int) < -(y:Int)):=by omega
     have q2:¬(-(x:Int)=-(y:Int)):=by omega
     rw[if_neg q1,if_neg q2];simp[g1,g2]
end Go.Vm
