/- A part of the evaluator and of what is told of floats; no conditions. -/
import Derived.Deep.MidRow
import Derived.Orders
import Derived.Below
import Derived.KernelRfl
import Derived.WalkLawsBesides
set_option linter.unusedSimpArgs false
set_option linter.unusedVariables false
set_option linter.unusedSectionVars false
set_option maxRecDepth 1000000
namespace Go.Vm
inductive AObj where
 |cells (cs:List Value) (sz:Nat)
 |map (kk:IntKind) (es:List (Int×Value))
abbrev Objs:=List (Nat×AObj)
def look (k:Nat):Objs→Option AObj
 |[]=>none
 |(j,o)::r=>bif Nat.beq j k then some o else look k r
def drop (k:Nat):Objs→Objs
 |[]=>[]
 |(j,o)::r=>bif Nat.beq j k then drop k r else (j,o)::drop k r
structure AH where
 next:Nat
 objs:Objs
theorem look_mem {k:Nat} {o:AObj}:∀{S:Objs},look k S=some o→(k,o)∈S
 |[],h=>by simp[look]at h
 |(j,u)::r,h=>by
  unfold look at h; cases hb:Nat.beq j k with
  |true=>simp[hb]at h;have:=Nat.eq_of_beq_eq_true hb;subst this;subst h;simp
  |false=>simp[hb]at h;exact List.mem_cons_of_mem _ (look_mem h)
theorem mem_drop {k:Nat} {x:Nat×AObj}:∀{S:Objs},x∈drop k S↔x∈S∧x.1≠k
 |[]=>by simp[drop]
 |(j,u)::r=>by
  unfold drop; cases hb:Nat.beq j k with
  |true=>
   have:=Nat.eq_of_beq_eq_true hb
   subst this; simp only[cond_true,mem_drop (S:=r),List.mem_cons]; constructor
   ·rintro ⟨h1,h2⟩;exact⟨.inr h1,h2⟩
   ·rintro ⟨rfl|h1,h2⟩
    ·exact absurd rfl h2
    ·exact⟨h1,h2⟩
  |false=>
   have hne:j≠k:=fun e=>by subst e;simp at hb
   simp only[cond_false,List.mem_cons,mem_drop (S:=r)]
   constructor
   ·rintro (rfl|⟨h1,h2⟩)
    ·exact⟨.inl rfl,hne⟩
    ·exact⟨.inr h1,h2⟩
   ·rintro ⟨rfl|h1,h2⟩
    ·exact .inl rfl
    ·exact .inr ⟨h1,h2⟩
structure Spot where
 b:Nat
 d:Nat
 x:Nat
abbrev Map:=Nat→Option Spot
def nanW (b:Nat):Bool:=(Ieee.double.read b).isNaN
def partW (p a:Nat):Bool:=match p with
 |0=>nanW a
 |n+1=>Nat.beq n a
mutual
inductive VRel (ρ:Map):Value→Value→Prop
 |bool (b:Bool):VRel ρ (.bool b) (.bool b)
 |int (k:IntKind) (n:Int):VRel ρ (.int k n) (.int k n)
 |float (n:Nat):VRel ρ (.float .f64 n) (.float .f64 n)
 |nan (n:Nat) {b:Nat} (h:nanW b=true):VRel ρ (.float .f32 n) (.float .f64 b)
 |complex (a b:Nat):VRel ρ (.complex .f64 a b) (.complex .f64 a b)
 |cnan {p q a b:Nat} (h:partW p a=true) (g:partW q b=true):VRel ρ (.complex .f32 p q) (.complex .f64 a b)
 |string (s:ByteArray):VRel ρ (.string s) (.string s)
 |nilPtr:VRel ρ (.pointer none) (.pointer none)
 |ptr {k o:Nat} {s:Spot} (h:ρ k=some s):VRel ρ (.pointer (some ⟨k,o,none⟩)) (.pointer (some ⟨s.b,s.d+o,none⟩))
 |nilSlice (n c:Nat):VRel ρ (.slice none n c) (.slice none n c)
 |slice {k o n c:Nat} {s:Spot} (h:ρ k=some s):VRel ρ (.slice (some ⟨k,o,none⟩) n c) (.slice (some ⟨s.b,s.d+o,none⟩) n (c+s.x))
 |nilMap:VRel ρ (.map none) (.map none)
 |map {k:Nat} {s:Spot} (h:ρ k=some s):VRel ρ (.map (some k)) (.map (some s.b))
 |nilFunc:VRel ρ .nilFunc .nilFunc
 |func (f:Fn) {as as' bs bs':List Value} (ha:VRels ρ as as') (hb:VRels ρ bs bs'):VRel ρ (.func f ⟨as⟩ ⟨bs⟩) (.func f ⟨as'⟩ ⟨bs'⟩)
 |nilIface:VRel ρ .nilIface .nilIface
 |iface (t:TypeId) {v v':Value} (h:VRel ρ v v'):VRel ρ (.iface t v) (.iface t v')
 |agg {as as':List Value} (h:VRels ρ as as'):VRel ρ (.agg ⟨as⟩) (.agg ⟨as'⟩)
 |tuple {as as':List Value} (h:VRels ρ as as'):VRel ρ (.tuple ⟨as⟩) (.tuple ⟨as'⟩)
inductive VRels (ρ:Map):List Value→List Value→Prop
 |nil:VRels ρ [] []
 |cons {v v':Value} {vs vs':List Value} (h:VRel ρ v v') (hs:VRels ρ vs vs'):VRels ρ (v::vs) (v'::vs')
end
section
variable {ρ ρ':Map}
mutual
theorem VRel.mono (hρ:∀ k p,ρ k=some p→ρ' k=some p):∀{v v':Value},VRel ρ v v'→VRel ρ' v v'
 |_,_,.bool b=>.bool b
 |_,_,.int k n=>.int k n
 |_,_,.float n=>.float n
 |_,_,.nan n h=>.nan n h
 |_,_,.complex a b=>.complex a b
 |_,_,.cnan h g=>.cnan h g
 |_,_,.string s=>.string s
 |_,_,.nilPtr=>.nilPtr
 |_,_,.ptr h=>.ptr (hρ _ _ h)
 |_,_,.nilSlice n c=>.nilSlice n c
 |_,_,.slice h=>.slice (hρ _ _ h)
 |_,_,.nilMap=>.nilMap
 |_,_,.map h=>.map (hρ _ _ h)
 |_,_,.nilFunc=>.nilFunc
 |_,_,.func f ha hb=>.func f (VRels.mono hρ ha) (VRels.mono hρ hb)
 |_,_,.nilIface=>.nilIface
 |_,_,.iface t h=>.iface t (VRel.mono hρ h)
 |_,_,.agg h=>.agg (VRels.mono hρ h)
 |_,_,.tuple h=>.tuple (VRels.mono hρ h)
theorem VRels.mono (hρ:∀ k p,ρ k=some p→ρ' k=some p):∀{v v':List Value},VRels ρ v v'→VRels ρ' v v'
 |_,_,.nil=>.nil
 |_,_,.cons h hs=>.cons (VRel.mono hρ h) (VRels.mono hρ hs)
end
end
mutual
def inn (n:Nat):Value→Bool
 |.pointer (some a)=>Nat.blt a.block n
 |.slice (some a) _ _=>Nat.blt a.block n
 |.map (some k)=>Nat.blt k n
 |.chan _=>false
 |.float .f32 _=>false
 |.complex .f32 _ _=>false
 |.func _ as bs=>innA n as && innA n bs
 |.iface _ v=>inn n v
 |.agg as=>innA n as
 |.tuple as=>innA n as
 |_=>true
def innA (n:Nat):Array Value→Bool
 |⟨l⟩=>inns n l
def inns (n:Nat):List Value→Bool
 |[]=>true
 |v::r=>inn n v && inns n r
end
section
variable {ρ ρ':Map} {n:Nat}
mutual
theorem VRel.scope (hρ:∀ k,k<n→ρ' k=ρ k):∀{v v':Value},VRel ρ' v v'→inn n v=true→VRel ρ v v'
 |_,_,.bool b,_=>.bool b
 |_,_,.int k n,_=>.int k n
 |_,_,.float n,_=>.float n
 |_,_,.nan n h,_=>.nan n h
 |_,_,.complex a b,_=>.complex a b
 |_,_,.cnan h g,_=>.cnan h g
 |_,_,.string s,_=>.string s
 |_,_,.nilPtr,_=>.nilPtr
 |_,_,.ptr h,hs=>.ptr (by rw[← hρ _ (by simpa[inn,Nat.blt_eq] using hs)];exact h)
 |_,_,.nilSlice n c,_=>.nilSlice n c
 |_,_,.slice h,hs=>.slice (by rw[← hρ _ (by simpa[inn,Nat.blt_eq] using hs)];exact h)
 |_,_,.nilMap,_=>.nilMap
 |_,_,.map h,hs=>.map (by rw[← hρ _ (by simpa[inn,Nat.blt_eq] using hs)];exact h)
 |_,_,.nilFunc,_=>.nilFunc
 |_,_,.func f ha hb,hs=>by
  simp only[inn,innA,Bool.and_eq_true]at hs
  exact .func f (VRels.scope hρ ha hs.1) (VRels.scope hρ hb hs.2)
 |_,_,.nilIface,_=>.nilIface
 |_,_,.iface t h,hs=>.iface t (VRel.scope hρ h (by simpa[inn] using hs))
 |_,_,.agg h,hs=>.agg (VRels.scope hρ h (by simpa[inn,innA] using hs))
 |_,_,.tuple h,hs=>.tuple (VRels.scope hρ h (by simpa[inn,innA] using hs))
theorem VRels.scope (hρ:∀ k,k<n→ρ' k=ρ k):∀{v v':List Value},VRels ρ' v v'→inns n v=true→VRels ρ v v'
 |_,_,.nil,_=>.nil
 |_,_,.cons h hs,hx=>by
  simp only[inns,Bool.and_eq_true]at hx
  exact .cons (VRel.scope hρ h hx.1) (VRels.scope hρ hs hx.2)
end
end
def flat (v:Value):Bool:=inn 0 v
theorem VRel.flat_eq {ρ:Map} {v v':Value} (h:VRel ρ v v'):flat v=true→v'=v:=by
 unfold flat; refine VRel.rec (motive_1:=fun v v' _=>inn 0 v=true→v'=v) (motive_2:=fun vs vs' _=>inns 0 vs=true→vs'=vs)
  ?_ ?_ ?_ ?_ ?_ ?_ ?_ ?_ ?_ ?_ ?_ ?_ ?_ ?_ ?_ ?_ ?_ ?_ ?_ ?_ ?_ h
 all_goals intros
 all_goals simp_all [inn,innA,inns]
theorem VRels.flat_eq {ρ:Map}:∀{v v':List Value},VRels ρ v v'→inns 0 v=true→v'=v
 |_,_,.nil,_=>rfl
 |_,_,.cons h hs,hx=>by
  simp only[inns,Bool.and_eq_true]at hx
  rw[h.flat_eq hx.1,hs.flat_eq hx.2]
mutual
theorem VRel.ofFlat (ρ:Map):∀{v:Value},inn 0 v=true→VRel ρ v v
 |.bool b,_=>.bool b
 |.int k n,_=>.int k n
 |.float .f64 n,_=>.float n
 |.float .f32 n,h=>by simp[inn]at h
 |.complex .f64 a b,_=>.complex a b
 |.complex .f32 a b,h=>by simp[inn]at h
 |.string s,_=>.string s
 |.pointer none,_=>.nilPtr
 |.pointer (some a),h=>by simp[inn]at h
 |.slice none n c,_=>.nilSlice n c
 |.slice (some a) _ _,h=>by simp[inn]at h
 |.map none,_=>.nilMap
 |.map (some a),h=>by simp[inn]at h
 |.chan _,h=>by simp[inn]at h
 |.nilFunc,_=>.nilFunc
 |.func f ⟨as⟩ ⟨bs⟩,h=>by
  simp only[inn,innA,Bool.and_eq_true]at h
  exact .func f (VRels.ofFlat ρ h.1) (VRels.ofFlat ρ h.2)
 |.nilIface,_=>.nilIface
 |.iface t v,h=>.iface t (VRel.ofFlat ρ (by simpa[inn] using h))
 |.agg ⟨as⟩,h=>.agg (VRels.ofFlat ρ (by simpa[inn,innA] using h))
 |.tuple ⟨as⟩,h=>.tuple (VRels.ofFlat ρ (by simpa[inn,innA] using h))
theorem VRels.ofFlat (ρ:Map):∀{v:List Value},inns 0 v=true→VRels ρ v v
 |[],_=>.nil
 |v::r,h=>by
  simp only[inns,Bool.and_eq_true]at h
  exact .cons (VRel.ofFlat ρ h.1) (VRels.ofFlat ρ h.2)
end
theorem beq_ne {s t:Nat} (h:s≠t):Nat.beq s t=false:=by
 cases hb:Nat.beq s t with
 |true=>exact absurd (Nat.eq_of_beq_eq_true hb) h
 |false=>rfl
inductive MRels (ρ:Map) (kk:IntKind):List (Int×Value)→List MapEntry→Prop
 |nil:MRels ρ kk [] []
 |cons {n:Int} {v v':Value} {b:Nat} {es:List (Int×Value)} {es':List MapEntry} (h:VRel ρ v v') (hs:MRels ρ kk es es'):
   MRels ρ kk ((n,v)::es) ({ key:=.int kk n,val:=v',born:=b }::es')
theorem MRels.mono {ρ ρ':Map} {kk:IntKind} (hρ:∀ k p,ρ k=some p→ρ' k=some p):∀{es es'},MRels ρ kk es es'→MRels ρ' kk es es'
 |_,_,.nil=>.nil
 |_,_,.cons h hs=>.cons (h.mono hρ) (hs.mono hρ)
def Lies (w:World) (b:Nat) (arr:Array Value) (ty:TypeId) (d n:Nat):Prop:=(∃ fr:Nat×Nat,w.heap[b]?=some (.cells arr ty fr))∧∀ j,j<n→w.frozen? ⟨b,d+j,none⟩=false
theorem Lies.fresh {w:World} {b:Nat} {arr:Array Value} {ty:TypeId} (h:w.heap[b]?=some (.cells arr ty (0,0))) (d n:Nat):Lies w b arr ty d n:=
 ⟨⟨_,h⟩,fun j _=>by simp[World.frozen?,h]⟩
theorem Lies.heap {w w':World} {b:Nat} {arr:Array Value} {ty:TypeId} {d n:Nat} (e:w'.heap[b]?=w.heap[b]?) (h:Lies w b arr ty d n):Lies w' b arr ty d n:=
 ⟨let ⟨fr,g⟩:=h.1;⟨fr,e.trans g⟩,fun j hj=>by
  have:=h.2 j hj
  unfold World.frozen? at this ⊢; simp only at this ⊢
  rw[e]
  exact this⟩
theorem Lies.put {w w':World} {b:Nat} {arr arr':Array Value} {ty:TypeId} {d n d' n':Nat} {fr:Nat×Nat} (h:Lies w b arr ty d n) (e:w.heap[b]?=some (.cells arr ty fr)) (e':w'.heap[b]?=some (.cells arr' ty fr)) (hd:d=d') (hn:n'≤n):Lies w' b arr' ty d' n':=
 ⟨⟨fr,e'⟩,fun j hj=>by
  subst hd
  have:=h.2 j (by omega)
  unfold World.frozen? at this ⊢; simp only[e,e']at this ⊢; exact this⟩
def OHas (ρ:Map) (o:AObj) (s:Spot) (w:World):Prop:=
 match o with
 |.cells cs sz=>∃(arr:Array Value) (ty:TypeId) (cs':List Value),Lies w s.b arr ty s.d (cs.length+s.x*sz)∧VRels ρ cs cs'∧(∀(i:Nat) v,cs'[i]?=some v→arr[s.d+i]?=some v)∧s.d+cs.length+s.x*sz≤arr.size∧(sz=0→s.x=0)
 |.map kk es=>∃(arr:Array MapEntry) (clock:Nat),w.heap[s.b]?=some (.map arr clock)∧MRels ρ kk es arr.toList
theorem OHas.mono {ρ ρ':Map} (hρ:∀ k p,ρ k=some p→ρ' k=some p) {o:AObj} {s:Spot} {w:World} (h:OHas ρ o s w):OHas ρ' o s w:=by
 cases o with
 |cells cs=>obtain⟨arr,ty,cs',h1,h2,h3⟩:=h;exact⟨arr,ty,cs',h1,h2.mono hρ,h3⟩
 |map kk es=>obtain⟨arr,cl,h1,h2⟩:=h;exact⟨arr,cl,h1,h2.mono hρ⟩
theorem OHas.heap {ρ:Map} {o:AObj} {s:Spot} {w w':World} (e:w'.heap[s.b]?=w.heap[s.b]?) (h:OHas ρ o s w):OHas ρ o s w':=by
 cases o with
 |cells cs=>obtain⟨arr,ty,cs',h1,h2,h3⟩:=h;exact⟨arr,ty,cs',h1.heap e,h2,h3⟩
 |map kk es=>obtain⟨arr,cl,h1,h2⟩:=h;exact⟨arr,cl,e.trans h1,h2⟩
theorem OHas.lt {ρ:Map} {o:AObj} {s:Spot} {w:World} (h:OHas ρ o s w):s.b<w.heap.size:=by
 have:(w.heap[s.b]?).isSome=true:=by
  cases o with
  |cells cs=>obtain⟨arr,ty,cs',⟨⟨fr,h1⟩,_⟩,_⟩:=h;simp[h1]
  |map kk es=>obtain⟨arr,cl,h1,_⟩:=h;simp[h1]
 rcases Nat.lt_or_ge s.b w.heap.size with h' | h'
 ·exact h'
 ·simp[Array.getElem?_eq_none h']at this
structure HRel (ρ:Map) (S:Objs) (w:World):Prop where
 obj:∀ k o,(k,o)∈S→∃ s,ρ k=some s∧OHas ρ o s w
 inj:∀ k o k' o' s s',(k,o)∈S→(k',o')∈S→ρ k=some s→ρ k'=some s'→s.b=s'.b→k=k'
theorem HRel.sub {ρ:Map} {S T:Objs} {w:World} (h:HRel ρ S w) (hs:∀ x,x∈T→x∈S):HRel ρ T w:=
 ⟨fun k o hm=>h.obj k o (hs _ hm),fun k o k' o' b d h1 h2=>h.inj k o k' o' b d (hs _ h1) (hs _ h2)⟩
structure Inv (ρ:Map) (H:AH) (w:World):Prop where
 dom:∀ k,H.next≤k→ρ k=none
 wf:∀ k o,(k,o)∈H.objs→k<H.next
 one:∀ k o o',(k,o)∈H.objs→(k,o')∈H.objs→o=o'
 rel:HRel ρ H.objs w
theorem Inv.lt {ρ:Map} {H:AH} {w:World} (h:Inv ρ H w) {k:Nat} {p:Spot} (hk:ρ k=some p):k<H.next:=by
 rcases Nat.lt_or_ge k H.next with h' | h'
 ·exact h'
 ·rw[h.dom k h']at hk;cases hk
structure Next (lo:Nat) (ρ:Map) (H:AH) (w:World) (ρ':Map) (H':AH) (w':World):Prop where
 inv:Inv ρ' H' w'
 same:∀ k,k<H.next→ρ' k=ρ k
 nx:H.next≤H'.next
 size:w.heap.size≤w'.heap.size
 os:w'.os=w.os
 tape:w'.tape=w.tape
 output:w'.output=w.output
 keep:∀ b,b<w.heap.size→(∀ k o s,lo≤k→(k,o)∈H.objs→ρ k=some s→s.b≠b)→w'.heap[b]?=w.heap[b]?
 own:∀ k o s,lo≤k→(k,o)∈H'.objs→ρ' k=some s→w.heap.size≤s.b∨∃ k' o' s',lo≤k'∧(k',o')∈H.objs∧ρ k'=some s'∧s'.b=s.b
 old:∀ k o,k<lo→((k,o)∈H'.objs↔(k,o)∈H.objs)
section
variable {lo:Nat} {ρ ρ' ρ'':Map} {H H' H'':AH} {w w' w'':World}
theorem Next.ext (h:Next lo ρ H w ρ' H' w') (hi:Inv ρ H w):∀ k p,ρ k=some p→ρ' k=some p:=fun k p hk=>by
 rw[h.same k (hi.lt hk)];exact hk
theorem Next.refl (hi:Inv ρ H w):Next lo ρ H w ρ H w:=
 ⟨hi,fun _ _=>rfl,Nat.le_refl _,Nat.le_refl _,rfl,rfl,rfl,fun _ _ _=>rfl,fun k o s h1 h2 h3=>.inr ⟨k,o,s,h1,h2,h3,rfl⟩,fun _ _ _=>Iff.rfl⟩
theorem Next.trans (h:Next lo ρ H w ρ' H' w') (g:Next lo ρ' H' w' ρ'' H'' w''):Next lo ρ H w ρ'' H'' w'' where
 inv:=g.inv
 same k hk:=(g.same k (Nat.lt_of_lt_of_le hk h.nx)).trans (h.same k hk)
 nx:=Nat.le_trans h.nx g.nx
 size:=Nat.le_trans h.size g.size
 os:=g.os.trans h.os
 tape:=g.tape.trans h.tape
 output:=g.output.trans h.output
 keep b hb hn:=by
  rw[← h.keep b hb hn]
  refine g.keep b (Nat.lt_of_lt_of_le hb h.size) fun k o s hk hm he e=>?_
  rcases h.own k o s hk hm he with h1|⟨k',o',s',h1,h2,h3,h4⟩
  ·omega
  ·exact hn k' o' s' h1 h2 h3 (h4.trans e)
 own k o s hk hm he:=by
  rcases g.own k o s hk hm he with h1|⟨k',o',s',h1,h2,h3,h4⟩
  ·exact .inl (Nat.le_trans h.size h1)
  ·rcases h.own k' o' s' h1 h2 h3 with h5|⟨k2,o2,s2,g1,g2,g3,g4⟩
   ·exact .inl (h4 ▸ h5)
   ·exact .inr ⟨k2,o2,s2,g1,g2,g3,g4.trans h4⟩
 old k o hk:=(g.old k o hk).trans (h.old k o hk)
theorem Next.weaken {lo':Nat} (hl:lo'≤lo) (h:Next lo ρ H w ρ' H' w') (hi:Inv ρ H w):Next lo' ρ H w ρ' H' w':=
 {h with
  keep:=fun b hb hn=>h.keep b hb fun k o s hk=>hn k o s (Nat.le_trans hl hk)
  own:=fun k o s hk hm he=>by
   rcases Nat.lt_or_ge k lo with h1|h1
   ·have hm':=(h.old k o h1).1 hm; refine .inr ⟨k,o,s,hk,hm',?_,rfl⟩
    rw[← h.same k (hi.wf k o hm')];exact he
   ·rcases h.own k o s h1 hm he with h2|⟨k',o',s',h2,h3,h4⟩
    ·exact .inl h2
    ·exact .inr ⟨k',o',s',Nat.le_trans hl h2,h3,h4⟩
  old:=fun k o hk=>h.old k o (Nat.lt_of_lt_of_le hk hl) }
theorem HRel.heap (h:HRel ρ H.objs w) (e:∀ b:Nat,w'.heap[b]?=w.heap[b]?):HRel ρ H.objs w':=
 ⟨fun k o hm=>let ⟨s,h1,h2⟩:=h.obj k o hm;⟨s,h1,h2.heap (e s.b)⟩,h.inj⟩
theorem Next.draw (hi:Inv ρ H w):Next lo ρ H w ρ H w.drew:=
 {Next.refl (lo:=lo) hi with inv:=⟨hi.dom,hi.wf,hi.one,hi.rel.heap (w':=w.drew) fun _=>rfl⟩ }
theorem Next.forget (hi:Inv ρ H w) (h:Next H.next ρ H w ρ' H' w'):Next lo ρ H w ρ H w':=by
 have hk:∀ k o s,(k,o)∈H.objs→ρ k=some s→w'.heap[s.b]?=w.heap[s.b]?:=fun k o s hm he=>by
  obtain⟨s',e1,e2⟩:=hi.rel.obj k o hm
  rw[e1]at he
  obtain rfl:s'=s:=by simpa using he
  refine h.keep s'.b e2.lt fun k' o' s'' hl hm'=>?_
  exact absurd (hi.wf k' o' hm') (by omega)
 exact
 {inv:=⟨hi.dom,hi.wf,hi.one,⟨fun k o hm=>let ⟨s,h1,h2⟩:=hi.rel.obj k o hm;⟨s,h1,h2.heap (hk k o s hm h1)⟩,hi.rel.inj⟩⟩
  same:=fun _ _=>rfl
  nx:=Nat.le_refl _
  size:=h.size
  os:=h.os
  tape:=h.tape
  output:=h.output
  keep:=fun b hb _=>h.keep b hb fun k o s hk hm=>absurd (hi.wf k o hm) (by omega)
  own:=fun k o s hk hm he=>.inr ⟨k,o,s,hk,hm,he,rfl⟩
  old:=fun _ _ _=>Iff.rfl }
def upd (ρ:Map) (k:Nat) (p:Spot):Map:=fun j=>bif Nat.beq j k then some p else ρ j
theorem upd_same (ρ:Map) (k:Nat) (p:Spot):upd ρ k p k=some p:=by simp[upd]
theorem upd_ne {ρ:Map} {k j:Nat} {p:Spot} (h:j≠k):upd ρ k p j=ρ j:=by
 have:Nat.beq j k=false:=beq_ne h
 simp[upd,this]
theorem upd_ext (hi:Inv ρ H w) (p:Spot):∀ k q,ρ k=some q→upd ρ H.next p k=some q:=fun k q hk=>by
 rw[upd_ne (Nat.ne_of_lt (hi.lt hk))];exact hk
def AH.push (H:AH) (o:AObj):AH:=⟨H.next+1,(H.next,o)::H.objs⟩
theorem Next.add (hi:Inv ρ H w) (hlo:lo≤H.next) (o:AObj) (p:Spot) (S:Objs) (hS:∀ x,x∈S→x∈H.objs)
  (hkeep:∀ k o,k<lo→(k,o)∈H.objs→(k,o)∈S)
  (hsz:w.heap.size≤w'.heap.size) (hos:w'.os=w.os) (htape:w'.tape=w.tape) (hout:w'.output=w.output)
  (hheap:∀ b:Nat,b<w.heap.size→b≠p.b→w'.heap[b]?=w.heap[b]?)
  (hown:w.heap.size≤p.b∨∃ k' o' s',lo≤k'∧(k',o')∈H.objs∧ρ k'=some s'∧s'.b=p.b)
  (hfree:∀ k o s,(k,o)∈S→ρ k=some s→s.b≠p.b)
  (ho:OHas (upd ρ H.next p) o p w'):
  Next lo ρ H w (upd ρ H.next p) ⟨H.next+1,(H.next,o)::S⟩ w':=by
 have hext:=upd_ext hi p
 refine
 {inv:=⟨fun k hk=>?_,fun k o' hm=>?_,fun k o' o'' h1 h2=>?_,⟨fun k o' hm=>?_,fun k o' k' o'' s s' h1 h2 h3 h4 h5=>?_⟩⟩
  same:=fun k hk=>upd_ne (Nat.ne_of_lt hk)
  nx:=Nat.le_succ _
  size:=hsz
  os:=hos
  tape:=htape
  output:=hout
  keep:=fun b hb hn=>hheap b hb fun e=>?_
  own:=fun k o' s hk hm he=>?_
  old:=fun k o' hk=>?_ }
 ·simp only at hk
  rw[upd_ne (by omega)]
  exact hi.dom k (by omega)
 ·simp only[List.mem_cons,Prod.mk.injEq]at hm ⊢
  rcases hm with ⟨rfl,_⟩|hm
  ·omega
  ·have:=hi.wf k o' (hS _ hm);omega
 ·simp only[List.mem_cons,Prod.mk.injEq]at h1 h2
  rcases h1 with ⟨rfl,rfl⟩|h1
  ·rcases h2 with ⟨_,rfl⟩|h2
   ·rfl
   ·exact absurd (hi.wf _ _ (hS _ h2)) (by omega)
  ·rcases h2 with ⟨rfl,rfl⟩|h2
   ·exact absurd (hi.wf _ _ (hS _ h1)) (by omega)
   ·exact hi.one k _ _ (hS _ h1) (hS _ h2)
 ·simp only[List.mem_cons,Prod.mk.injEq]at hm
  rcases hm with ⟨rfl,rfl⟩|hm
  ·exact⟨p,upd_same _ _ _,ho⟩
  ·obtain⟨s,h1,h2⟩:=hi.rel.obj k o' (hS _ hm)
   exact⟨s,hext _ _ h1,(h2.mono hext).heap (hheap s.b h2.lt (hfree k o' s hm h1))⟩
 ·simp only[List.mem_cons,Prod.mk.injEq]at h1 h2
  rcases h1 with ⟨rfl,rfl⟩|h1
  ·rcases h2 with ⟨rfl,_⟩|h2
   ·rfl
   ·rw[upd_same]at h3
    rw[upd_ne (Nat.ne_of_lt (hi.wf k' o'' (hS _ h2)))]at h4
    cases h3
    exact absurd h5.symm (hfree k' o'' s' h2 h4)
  ·rcases h2 with ⟨rfl,rfl⟩|h2
   ·rw[upd_same]at h4
    rw[upd_ne (Nat.ne_of_lt (hi.wf k o' (hS _ h1)))]at h3
    cases h4
    exact absurd h5 (hfree k o' s h1 h3)
   ·rw[upd_ne (Nat.ne_of_lt (hi.wf k o' (hS _ h1)))]at h3
    rw[upd_ne (Nat.ne_of_lt (hi.wf k' o'' (hS _ h2)))]at h4
    exact hi.rel.inj k o' k' o'' s s' (hS _ h1) (hS _ h2) h3 h4 h5
 ·subst e; rcases hown with h|⟨k',o',s',h1,h2,h3,h4⟩
  ·omega
  ·exact hn k' o' s' h1 h2 h3 h4
 ·simp only[List.mem_cons,Prod.mk.injEq]at hm
  rcases hm with ⟨rfl,rfl⟩|hm
  ·rw[upd_same]at he
   cases he
   exact hown
  ·rw[upd_ne (Nat.ne_of_lt (hi.wf k o' (hS _ hm)))]at he
   exact .inr ⟨k,o',s,hk,hS _ hm,he,rfl⟩
 ·simp only[List.mem_cons,Prod.mk.injEq]
  constructor
  ·rintro (⟨rfl,_⟩|h)
   ·omega
   ·exact hS _ h
  ·intro h;exact .inr (hkeep k o' hk h)
theorem Next.alloc (hi:Inv ρ H w) (hlo:lo≤H.next) (o:AObj) (ob:Obj) (x:Nat) (ho:OHas (upd ρ H.next ⟨w.heap.size,0,x⟩) o ⟨w.heap.size,0,x⟩ (w.alloc ob)):
  Next lo ρ H w (upd ρ H.next ⟨w.heap.size,0,x⟩) (H.push o) (w.alloc ob):=by
 refine Next.add hi hlo o ⟨w.heap.size,0,x⟩ H.objs (fun _ h=>h) (fun _ _ _ h=>h) (by simp) rfl rfl rfl (fun b hb _=>?_) (.inl (Nat.le_refl _)) (fun k o s hm he=>?_) ho
 ·simp only[World.alloc,Array.getElem?_push]
  rw[if_neg (by omega)]
 ·obtain⟨s',e1,e2⟩:=hi.rel.obj k o hm
  rw[e1]at he
  cases he
  exact Nat.ne_of_lt e2.lt
def AH.put (H:AH) (k:Nat) (o:AObj):AH:=⟨H.next,(k,o)::drop k H.objs⟩
theorem Next.write (hi:Inv ρ H w) {k:Nat} {o:AObj} (hm:(k,o)∈H.objs) (hlo:lo≤k) {s:Spot} (hb:ρ k=some s) (o':AObj)
  (hsz:w'.heap.size=w.heap.size) (hos:w'.os=w.os) (htape:w'.tape=w.tape) (hout:w'.output=w.output)
  (hheap:∀ b':Nat,b'≠s.b→w'.heap[b']?=w.heap[b']?) (ho:OHas ρ o' s w'):Next lo ρ H w ρ (H.put k o') w':=by
 refine
 {inv:=⟨hi.dom,fun j u hu=>?_,fun j u u' h1 h2=>?_,⟨fun j u hu=>?_,fun j u j' u' s1 s1' h1 h2 h3 h4 h5=>?_⟩⟩
  same:=fun _ _=>rfl
  nx:=Nat.le_refl _
  size:=Nat.le_of_eq hsz.symm
  os:=hos
  tape:=htape
  output:=hout
  keep:=fun b' hb' hn=>hheap b' fun e=>hn k o s hlo hm hb e.symm
  own:=fun j u s' hj hu he=>?_
  old:=fun j u hj=>?_ }
 all_goals simp only[AH.put,List.mem_cons,Prod.mk.injEq,mem_drop]at *
 ·rcases hu with ⟨rfl,_⟩|hu
  ·exact hi.wf _ _ hm
  ·exact hi.wf _ _ hu.1
 ·rcases h1 with ⟨rfl,rfl⟩|h1
  ·rcases h2 with ⟨_,rfl⟩|h2
   ·rfl
   ·exact absurd rfl h2.2
  ·rcases h2 with ⟨rfl,rfl⟩|h2
   ·exact absurd rfl h1.2
   ·exact hi.one j _ _ h1.1 h2.1
 ·rcases hu with ⟨rfl,rfl⟩|hu
  ·exact⟨s,hb,ho⟩
  ·obtain⟨s1,e1,e2⟩:=hi.rel.obj j u hu.1
   exact⟨s1,e1,e2.heap (hheap s1.b fun e=>hu.2 (hi.rel.inj j u k o s1 s hu.1 hm e1 hb e))⟩
 ·have hx:∀ j u,((j=k∧u=o')∨((j,u)∈H.objs∧j≠k))→∃ u',(j,u')∈H.objs:=fun j u h=>by
   rcases h with ⟨rfl,_⟩|h
   ·exact⟨o,hm⟩
   ·exact⟨u,h.1⟩
  obtain⟨v1,g1⟩:=hx j u h1
  obtain⟨v2,g2⟩:=hx j' u' h2
  exact hi.rel.inj j v1 j' v2 s1 s1' g1 g2 h3 h4 h5
 ·rcases hu with ⟨rfl,_⟩|hu
  ·exact .inr ⟨j,o,s',hj,hm,he,rfl⟩
  ·exact .inr ⟨j,u,s',hj,hu.1,he,rfl⟩
 ·constructor
  ·rintro (⟨rfl,_⟩|h)
   ·omega
   ·exact h.1
  ·intro h; exact .inr ⟨h,by omega⟩
end
abbrev Env:=List (Nat×Value)
def getE (t:Nat):Env→Option Value
 |[]=>none
 |(s,v)::r=>bif Nat.beq s t then some v else getE t r
def dedup (seen:Nat):Env→Env
 |[]=>[]
 |(s,v)::r=>bif Nat.testBit seen s then dedup seen r else (s,v)::dedup (seen ||| (1 <<< s)) r
theorem getE_dedup (t:Nat):∀(e:Env) (seen:Nat),Nat.testBit seen t=false→getE t (dedup seen e)=getE t e
 |[],_,_=>rfl
 |(s,v)::r,seen,h=>by
  unfold dedup; cases hs:Nat.testBit seen s with
  |true=>
   have hne:s≠t:=fun e=>by subst e;rw[h]at hs;cases hs
   have hb:Nat.beq s t=false:=beq_ne hne; simp only[cond_true,getE,hb,cond_false]; exact getE_dedup t r seen h
  |false=>
   simp only[cond_false,getE]
   cases hb:Nat.beq s t with
   |true=>rfl
   |false=>
    have hne:s≠t:=fun e=>by subst e;simp at hb
    simp only[cond_false]
    refine getE_dedup t r _ ?_
    rw[Nat.testBit_or,h,Nat.one_shiftLeft,Nat.testBit_two_pow]
    simpa using hne
def EnvRel (ρ:Map) (e:Env) (tmps:Array Value):Prop:=∀ t v,getE t e=some v→∃ v',tmps[t]?=some v'∧VRel ρ v v'
theorem EnvRel.mono {ρ ρ':Map} {e:Env} {tmps:Array Value} (hρ:∀ k p,ρ k=some p→ρ' k=some p) (h:EnvRel ρ e tmps):EnvRel ρ' e tmps:=fun t v hv=>
 let ⟨v',h1,h2⟩:=h t v hv;⟨v',h1,h2.mono hρ⟩
theorem EnvRel.dedup {ρ:Map} {e:Env} {tmps:Array Value} (h:EnvRel ρ e tmps):EnvRel ρ (dedup 0 e) tmps:=fun t v hv=>by
 rw[getE_dedup t e 0 (by simp)]at hv;exact h t v hv
theorem EnvRel.put {ρ:Map} {e:Env} {tmps:Array Value} (h:EnvRel ρ e tmps) {d:Nat} (hd:d<tmps.size) {v v':Value} (hv:VRel ρ v v'):
  EnvRel ρ ((d,v)::e) (tmps.setIfInBounds d v'):=fun t u hu=>by
 unfold getE at hu; cases hb:Nat.beq d t with
 |true=>
  have:=Nat.eq_of_beq_eq_true hb
  subst this; simp[hb]at hu; subst hu
  exact⟨v',by simp[hd],hv⟩
 |false=>
  have hne:d≠t:=fun e=>by subst e;simp at hb
  simp only[hb,cond_false]at hu
  obtain⟨u',h1,h2⟩:=h t u hu
  exact⟨u',by rw[Array.getElem?_setIfInBounds_ne hne];exact h1,h2⟩
end Go.Vm
