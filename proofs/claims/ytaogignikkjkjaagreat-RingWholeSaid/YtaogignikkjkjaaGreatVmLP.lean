/- A part of the evaluator and of what is told of floats; no conditions. -/
import Derived.Test.YtaogignikkjkjaaGreatVmF0
set_option linter.unusedSimpArgs false
set_option linter.unusedVariables false
set_option linter.unusedSectionVars false
set_option maxRecDepth 1000000
namespace Go.Vm
mutual
def renV (p:Nat→Option Nat):Value→Option Value
 |.pointer (some ⟨b,o,s⟩)=>match s with
  |none=>(p b).bind fun b=>some (.pointer (some ⟨b,o,none⟩))
  |some _=>none
 |.slice (some ⟨b,o,s⟩) n c=>match s with
  |none=>(p b).bind fun b=>some (.slice (some ⟨b,o,none⟩) n c)
  |some _=>none
 |.map (some b)=>(p b).bind fun b=>some (.map (some b))
 |.chan _=>none
 |.func f as bs=>(renA p as).bind fun as=>(renA p bs).bind fun bs=>some (.func f as bs)
 |.iface t v=>(renV p v).bind fun v=>some (.iface t v)
 |.agg as=>(renA p as).bind fun as=>some (.agg as)
 |.tuple as=>(renA p as).bind fun as=>some (.tuple as)
 |v=>some v
def renA (p:Nat→Option Nat):Array Value→Option (Array Value)
 |⟨l⟩=>(renL p l).bind fun l=>some ⟨l⟩
def renL (p:Nat→Option Nat):List Value→Option (List Value)
 |[]=>some []
 |v::r=>(renV p v).bind fun v=>(renL p r).bind fun r=>some (v::r)
end
theorem renA_some {p:Nat→Option Nat} {l:List Value} {a:Array Value} (h:renA p ⟨l⟩=some a):∃ l2,renL p l=some l2∧a=⟨l2⟩:=by
 simp only[renA]at h
 obtain⟨l2,h1,h2⟩:=bind_some' h
 cases h2
 exact⟨l2,h1,rfl⟩
section
variable {ρ ρ2:Map} {p:Nat→Option Nat}
mutual
theorem VRel.ren (hq:∀ j k s,p j=some k→ρ j=some s→ρ2 k=some s):∀{v v':Value},VRel ρ v v'→∀{v2:Value},renV p v=some v2→VRel ρ2 v2 v'
 |_,_,.bool b,_,h=>by cases h;exact .bool b
 |_,_,.int k n,_,h=>by cases h;exact .int k n
 |_,_,.float n,_,h=>by cases h;exact .float n
 |_,_,.nan n g,_,h=>by cases h;exact .nan n g
 |_,_,.complex a b,_,h=>by cases h;exact .complex a b
 |_,_,.cnan g1 g2,_,h=>by cases h;exact .cnan g1 g2
 |_,_,.string s,_,h=>by cases h;exact .string s
 |_,_,.nilPtr,_,h=>by cases h;exact .nilPtr
 |_,_,.ptr g,_,h=>by
  obtain⟨b,h1,h2⟩:=bind_some' h
  cases h2
  exact .ptr (hq _ _ _ h1 g)
 |_,_,.nilSlice n c,_,h=>by cases h;exact .nilSlice n c
 |_,_,.slice g,_,h=>by
  obtain⟨b,h1,h2⟩:=bind_some' h
  cases h2
  exact .slice (hq _ _ _ h1 g)
 |_,_,.nilMap,_,h=>by cases h;exact .nilMap
 |_,_,.map g,_,h=>by
  obtain⟨b,h1,h2⟩:=bind_some' h
  cases h2
  exact .map (hq _ _ _ h1 g)
 |_,_,.nilFunc,_,h=>by cases h;exact .nilFunc
 |_,_,.func f ha hb,_,h=>by
  simp only[renV]at h
  obtain⟨a2,h1,h2⟩:=bind_some' h
  obtain⟨b2,h3,h4⟩:=bind_some' h2
  cases h4
  obtain⟨l1,g1,rfl⟩:=renA_some h1
  obtain⟨l2,g2,rfl⟩:=renA_some h3
  exact .func f (VRels.ren hq ha g1) (VRels.ren hq hb g2)
 |_,_,.nilIface,_,h=>by cases h;exact .nilIface
 |_,_,.iface t g,_,h=>by
  simp only[renV]at h
  obtain⟨b,h1,h2⟩:=bind_some' h
  cases h2
  exact .iface t (VRel.ren hq g h1)
 |_,_,.agg g,_,h=>by
  simp only[renV]at h
  obtain⟨b,h1,h2⟩:=bind_some' h
  cases h2
  obtain⟨l1,g1,rfl⟩:=renA_some h1
  exact .agg (VRels.ren hq g g1)
 |_,_,.tuple g,_,h=>by
  simp only[renV]at h
  obtain⟨b,h1,h2⟩:=bind_some' h
  cases h2
  obtain⟨l1,g1,rfl⟩:=renA_some h1
  exact .tuple (VRels.ren hq g g1)
theorem VRels.ren (hq:∀ j k s,p j=some k→ρ j=some s→ρ2 k=some s):∀{v v':List Value},VRels ρ v v'→∀{v2:List Value},renL p v=some v2→VRels ρ2 v2 v'
 |_,_,.nil,_,h=>by cases h;exact .nil
 |_,_,.cons g gs,_,h=>by
  simp only[renL]at h
  obtain⟨a,h1,h2⟩:=bind_some' h
  obtain⟨b,h3,h4⟩:=bind_some' h2
  cases h4
  exact .cons (VRel.ren hq g h1) (VRels.ren hq gs h3)
end
mutual
theorem VRel.unren (hq:∀ j k s,p j=some k→ρ2 k=some s→ρ j=some s):∀{v v2 v':Value},renV p v=some v2→VRel ρ2 v2 v'→VRel ρ v v'
 |.bool _,_,_,h,g=>by cases h;cases g;exact .bool _
 |.int _ _,_,_,h,g=>by cases h;cases g;exact .int _ _
 |.float .f64 _,_,_,h,g=>by cases h;cases g;exact .float _
 |.float .f32 _,_,_,h,g=>by cases h;cases g with|nan _ q=>exact .nan _ q
 |.complex .f64 _ _,_,_,h,g=>by cases h;cases g;exact .complex _ _
 |.complex .f32 _ _,_,_,h,g=>by cases h;cases g with|cnan q1 q2=>exact .cnan q1 q2
 |.string _,_,_,h,g=>by cases h;cases g;exact .string _
 |.pointer none,_,_,h,g=>by cases h;cases g;exact .nilPtr
 |.pointer (some ⟨b,o,none⟩),_,_,h,g=>by
  obtain⟨b,h1,h2⟩:=bind_some' h
  cases h2
  cases g with|ptr g=>exact .ptr (hq _ _ _ h1 g)
 |.pointer (some ⟨b,o,some _⟩),_,_,h,g=>by cases h
 |.slice none _ _,_,_,h,g=>by cases h;cases g;exact .nilSlice _ _
 |.slice (some ⟨b,o,none⟩) _ _,_,_,h,g=>by
  obtain⟨b,h1,h2⟩:=bind_some' h
  cases h2
  cases g with|slice g=>exact .slice (hq _ _ _ h1 g)
 |.slice (some ⟨b,o,some _⟩) _ _,_,_,h,g=>by cases h
 |.map none,_,_,h,g=>by cases h;cases g;exact .nilMap
 |.map (some b),_,_,h,g=>by
  obtain⟨b,h1,h2⟩:=bind_some' h
  cases h2
  cases g with|map g=>exact .map (hq _ _ _ h1 g)
 |.chan _,_,_,h,g=>by cases h
 |.nilFunc,_,_,h,g=>by cases h;cases g;exact .nilFunc
 |.nilIface,_,_,h,g=>by cases h;cases g;exact .nilIface
 |.func f ⟨as⟩ ⟨bs⟩,_,_,h,g=>by
  simp only[renV]at h
  obtain⟨a2,h1,h2⟩:=bind_some' h
  obtain⟨b2,h3,h4⟩:=bind_some' h2
  cases h4
  obtain⟨l1,g1,rfl⟩:=renA_some h1
  obtain⟨l2,g2,rfl⟩:=renA_some h3
  cases g with|func _ q1 q2=>exact .func f (VRels.unren hq g1 q1) (VRels.unren hq g2 q2)
 |.iface t v,_,_,h,g=>by
  simp only[renV]at h
  obtain⟨b,h1,h2⟩:=bind_some' h
  cases h2
  cases g with|iface _ q=>exact .iface t (VRel.unren hq h1 q)
 |.agg ⟨as⟩,_,_,h,g=>by
  simp only[renV]at h
  obtain⟨b,h1,h2⟩:=bind_some' h
  cases h2
  obtain⟨l1,g1,rfl⟩:=renA_some h1
  cases g with|agg q=>exact .agg (VRels.unren hq g1 q)
 |.tuple ⟨as⟩,_,_,h,g=>by
  simp only[renV]at h
  obtain⟨b,h1,h2⟩:=bind_some' h
  cases h2
  obtain⟨l1,g1,rfl⟩:=renA_some h1
  cases g with|tuple q=>exact .tuple (VRels.unren hq g1 q)
theorem VRels.unren (hq:∀ j k s,p j=some k→ρ2 k=some s→ρ j=some s):∀{v v2 v':List Value},renL p v=some v2→VRels ρ2 v2 v'→VRels ρ v v'
 |[],_,_,h,g=>by cases h;cases g;exact .nil
 |v::r,_,_,h,g=>by
  simp only[renL]at h
  obtain⟨a,h1,h2⟩:=bind_some' h
  obtain⟨b,h3,h4⟩:=bind_some' h2
  cases h4
  cases g with|cons q1 q2=>exact .cons (VRel.unren hq h1 q1) (VRels.unren hq h3 q2)
end
end
mutual
theorem ren_flat {p:Nat→Option Nat}:∀{v:Value},inn 0 v=true→renV p v=some v
 |.bool _,_=>rfl
 |.int _ _,_=>rfl
 |.float .f64 _,_=>rfl
 |.float .f32 _,h=>by simp[inn]at h
 |.complex .f64 _ _,_=>rfl
 |.complex .f32 _ _,h=>by simp[inn]at h
 |.string _,_=>rfl
 |.pointer none,_=>rfl
 |.pointer (some _),h=>by simp[inn]at h
 |.slice none _ _,_=>rfl
 |.slice (some _) _ _,h=>by simp[inn]at h
 |.map none,_=>rfl
 |.map (some _),h=>by simp[inn]at h
 |.chan _,h=>by simp[inn]at h
 |.nilFunc,_=>rfl
 |.nilIface,_=>rfl
 |.func f ⟨as⟩ ⟨bs⟩,h=>by
  simp only[inn,innA,Bool.and_eq_true]at h
  simp[renV,renA,rens_flat h.1,rens_flat h.2]
 |.iface t v,h=>by
  simp only[inn]at h
  simp[renV,ren_flat h]
 |.agg ⟨as⟩,h=>by
  simp only[inn,innA]at h
  simp[renV,renA,rens_flat h]
 |.tuple ⟨as⟩,h=>by
  simp only[inn,innA]at h
  simp[renV,renA,rens_flat h]
theorem rens_flat {p:Nat→Option Nat}:∀{v:List Value},inns 0 v=true→renL p v=some v
 |[],_=>rfl
 |v::r,h=>by
  simp only[inns,Bool.and_eq_true]at h
  simp[renL,ren_flat h.1,rens_flat h.2]
end
def renM (p:Nat→Option Nat):List (Int×Value)→Option (List (Int×Value))
 |[]=>some []
 |(n,v)::r=>(renV p v).bind fun v=>(renM p r).bind fun r=>some ((n,v)::r)
theorem MRels.ren {ρ ρ2:Map} {p:Nat→Option Nat} {kk:IntKind} (hq:∀ j k s,p j=some k→ρ j=some s→ρ2 k=some s):∀{es:List (Int×Value)} {es':List MapEntry},MRels ρ kk es es'→∀{es2},renM p es=some es2→MRels ρ2 kk es2 es'
 |_,_,.nil,_,h=>by cases h;exact .nil
 |_,_,.cons g gs,_,h=>by
  simp only[renM]at h
  obtain⟨a,h1,h2⟩:=bind_some' h
  obtain⟨b,h3,h4⟩:=bind_some' h2
  cases h4
  exact .cons (g.ren hq h1) (MRels.ren hq gs h3)
theorem MRels.unren {ρ ρ2:Map} {p:Nat→Option Nat} {kk:IntKind} (hq:∀ j k s,p j=some k→ρ2 k=some s→ρ j=some s):∀{es es2:List (Int×Value)} {es':List MapEntry},renM p es=some es2→MRels ρ2 kk es2 es'→MRels ρ kk es es'
 |[],_,_,h,g=>by cases h;cases g;exact .nil
 |(n,v)::r,_,_,h,g=>by
  simp only[renM]at h
  obtain⟨a,h1,h2⟩:=bind_some' h
  obtain⟨b,h3,h4⟩:=bind_some' h2
  cases h4
  cases g with|cons q1 q2=>exact .cons (VRel.unren hq h1 q1) (MRels.unren hq h3 q2)
def renO (p:Nat→Option Nat):AObj→Option AObj
 |.cells cs sz=>(renL p cs).bind fun cs=>some (.cells cs sz)
 |.map kk es=>(renM p es).bind fun es=>some (.map kk es)
theorem OHas.ren {ρ ρ2:Map} {p:Nat→Option Nat} (hq:∀ j k s,p j=some k→ρ j=some s→ρ2 k=some s) {o o2:AObj} (h2:renO p o=some o2) {s:Spot} {w:World} (h:OHas ρ o s w):OHas ρ2 o2 s w:=by
 cases o with
 |cells cs sz=>
  obtain⟨cs2,g1,g2⟩:=bind_some' h2
  cases g2
  obtain⟨arr,ty,cs',q1,q2,q3,q4,q5⟩:=h
  have hl:cs2.length=cs.length:=by
   have a:=q2.length; have b:=(q2.ren hq g1).length; omega
  exact⟨arr,ty,cs',by rw[hl];exact q1,q2.ren hq g1,q3,by rw[hl];exact q4,q5⟩
 |map kk es=>
  obtain⟨es2,g1,g2⟩:=bind_some' h2
  cases g2
  obtain⟨arr,cl,q1,q2⟩:=h
  exact⟨arr,cl,q1,q2.ren hq g1⟩
theorem OHas.unren {ρ ρ2:Map} {p:Nat→Option Nat} (hq:∀ j k s,p j=some k→ρ2 k=some s→ρ j=some s) {o o2:AObj} (h2:renO p o=some o2) {s:Spot} {w:World} (h:OHas ρ2 o2 s w):OHas ρ o s w:=by
 cases o with
 |cells cs sz=>
  obtain⟨cs2,g1,g2⟩:=bind_some' h2
  cases g2
  obtain⟨arr,ty,cs',q1,q2,q3,q4,q5⟩:=h
  have hl:cs2.length=cs.length:=by
   have a:=q2.length; have b:=(VRels.unren hq g1 q2).length; omega
  exact⟨arr,ty,cs',by rw[← hl];exact q1,VRels.unren hq g1 q2,q3,by rw[← hl];exact q4,q5⟩
 |map kk es=>
  obtain⟨es2,g1,g2⟩:=bind_some' h2
  cases g2
  obtain⟨arr,cl,q1,q2⟩:=h
  exact⟨arr,cl,q1,MRels.unren hq g1 q2⟩
section
variable {ρ:Map} {p:Nat→Option Nat}
mutual
theorem VRel.ren_id (hp:∀ k s,ρ k=some s→p k=some k):∀{v v':Value},VRel ρ v v'→renV p v=some v
 |_,_,.bool b=>rfl
 |_,_,.int k n=>rfl
 |_,_,.float n=>rfl
 |_,_,.nan n g=>rfl
 |_,_,.complex a b=>rfl
 |_,_,.cnan g1 g2=>rfl
 |_,_,.string s=>rfl
 |_,_,.nilPtr=>rfl
 |_,_,.ptr g=>by simp[renV,hp _ _ g]
 |_,_,.nilSlice n c=>rfl
 |_,_,.slice g=>by simp[renV,hp _ _ g]
 |_,_,.nilMap=>rfl
 |_,_,.map g=>by simp[renV,hp _ _ g]
 |_,_,.nilFunc=>rfl
 |_,_,.func f ha hb=>by simp[renV,renA,VRels.ren_id hp ha,VRels.ren_id hp hb]
 |_,_,.nilIface=>rfl
 |_,_,.iface t g=>by simp[renV,VRel.ren_id hp g]
 |_,_,.agg g=>by simp[renV,renA,VRels.ren_id hp g]
 |_,_,.tuple g=>by simp[renV,renA,VRels.ren_id hp g]
theorem VRels.ren_id (hp:∀ k s,ρ k=some s→p k=some k):∀{v v':List Value},VRels ρ v v'→renL p v=some v
 |_,_,.nil=>rfl
 |_,_,.cons g gs=>by simp[renL,VRel.ren_id hp g,VRels.ren_id hp gs]
end
theorem MRels.ren_id {kk:IntKind} (hp:∀ k s,ρ k=some s→p k=some k):∀{es:List (Int×Value)} {es':List MapEntry},MRels ρ kk es es'→renM p es=some es
 |_,_,.nil=>rfl
 |_,_,.cons g gs=>by simp[renM,g.ren_id hp,MRels.ren_id hp gs]
theorem OHas.ren_id (hp:∀ k s,ρ k=some s→p k=some k) {o:AObj} {s:Spot} {w:World} (h:OHas ρ o s w):renO p o=some o:=by
 cases o with
 |cells cs sz=>obtain⟨arr,ty,cs',q1,q2,q3⟩:=h;simp[renO,q2.ren_id hp]
 |map kk es=>obtain⟨arr,cl,q1,q2⟩:=h;simp[renO,q2.ren_id hp]
end
def placeIn:List Nat→Nat→Nat→Option Nat
 |[],_,_=>none
 |b::r,i,k=>bif Nat.beq b k then some i else placeIn r (i+1) k
theorem placeIn_get:∀{bs:List Nat} {i j k:Nat},placeIn bs i j=some k→i≤k∧bs[k-i]?=some j
 |[],i,j,k,h=>by cases h
 |b::r,i,j,k,h=>by
  unfold placeIn at h; cases hb:Nat.beq b j with
  |true=>
   rw[hb]at h
   cases h
   have:=Nat.eq_of_beq_eq_true hb
   subst this; simp
  |false=>
   rw[hb]at h
   obtain⟨h1,h2⟩:=placeIn_get (bs:=r) h
   refine⟨by omega,?_⟩
   rw[show k-i=(k-(i+1))+1 by omega]
   simpa using h2
def placeW (m:Nat) (bs:List Nat) (k:Nat):Option Nat:=bif Nat.blt k m then some k else placeIn bs m k
def mapW (m:Nat) (bs:List Nat) (ρ0 ρ:Map):Map:=fun k=>bif Nat.blt k m then ρ0 k else (bs[k-m]?).bind ρ
theorem placeW_cases {m:Nat} {bs:List Nat} {j k:Nat} (h:placeW m bs j=some k):(j<m∧k=j)∨(m≤k∧bs[k-m]?=some j):=by
 unfold placeW at h; cases hb:Nat.blt j m with
 |true=>rw[hb]at h;cases h;rw[Nat.blt_eq]at hb;exact .inl ⟨hb,rfl⟩
 |false=>rw[hb]at h;exact .inr (placeIn_get h)
theorem blt_false {a b:Nat} (h:b≤a):Nat.blt a b=false:=by
 cases hb:Nat.blt a b with
 |true=>rw[Nat.blt_eq]at hb;omega
 |false=>rfl
theorem blt_true {a b:Nat} (h:a<b):Nat.blt a b=true:=by rw[Nat.blt_eq];exact h
theorem mapW_old {m k:Nat} {bs:List Nat} {ρ0 ρ:Map} (h:k<m):mapW m bs ρ0 ρ k=ρ0 k:=by unfold mapW;rw[blt_true h];rfl
theorem mapW_new {m k:Nat} {bs:List Nat} {ρ0 ρ:Map} (h:m≤k):mapW m bs ρ0 ρ k=(bs[k-m]?).bind ρ:=by unfold mapW;rw[blt_false h];rfl
def BaseOk (P:Program) (lo sz:Nat) (H0:AH) (e:Env) (H:AH) (ex:Ex) (e':Env) (H':AH) (W:(Exit→Act→World→Prop)→Act→World→Prop):Prop:=
 ∀(ρ0:Map) (w0:World) (ρ:Map) (w:World) (a:Act),Inv ρ0 H0 w0→lo≤H0.next→Next lo ρ0 H0 w0 ρ H w→EnvRel ρ e a.tmps→a.tmps.size=sz→
  ∀ Q:Exit→Act→World→Prop,(∀ ρ' a' w',Next lo ρ0 H0 w0 ρ' H' w'→EnvRel ρ' e' a'.tmps→a'.tmps.size=sz→a'.defers=a.defers→Q ex.to a' w')→W Q a w
section
variable {P:Program} {lo sz:Nat} {H0 H H':AH} {e e':Env} {ex:Ex} {W:(Exit→Act→World→Prop)→Act→World→Prop}
theorem CodeOk.base (h:CodeOk P lo sz e H ex e' H' W):BaseOk P lo sz H0 e H ex e' H' W:=
 fun ρ0 w0 ρ w a hi hlo hn he hs Q hQ=>h hn.inv (Nat.le_trans hlo hn.nx) he hs Q fun ρ' a' w' m1 m2 m3 m4=>hQ ρ' a' w' (hn.trans m1) m2 m3 m4
theorem Next.sup {ρ ρ':Map} {w w':World} {O:Objs} (h:Next lo ρ ⟨H.next,O⟩ w ρ' H' w') (hO:∀ x,x∈O→x∈H.objs) (hold:∀ k o,k<lo→(k,o)∈H.objs→(k,o)∈O):Next lo ρ H w ρ' H' w' where
 inv:=h.inv
 same:=h.same
 nx:=h.nx
 size:=h.size
 os:=h.os
 tape:=h.tape
 output:=h.output
 keep:=fun b hb hn=>h.keep b hb fun k o s hk hm he=>hn k o s hk (hO _ hm) he
 own:=fun k o s hk hm he=>by
  rcases h.own k o s hk hm he with g|⟨k',o',s',g1,g2,g3,g4⟩
  ·exact .inl g
  ·exact .inr ⟨k',o',s',g1,hO _ g2,g3,g4⟩
 old:=fun k o hk=>(h.old k o hk).trans ⟨fun g=>hO _ g,fun g=>hold k o hk g⟩
theorem Inv.sub {ρ:Map} {w:World} {O:Objs} (h:Inv ρ H w) (hO:∀ x,x∈O→x∈H.objs):Inv ρ ⟨H.next,O⟩ w:=
 ⟨h.dom,fun k o hm=>h.wf k o (hO _ hm),fun k o o' g1 g2=>h.one k o o' (hO _ g1) (hO _ g2),h.rel.sub hO⟩
theorem Next.rename {ρ0 ρ:Map} {w0 w:World} (hi0:Inv ρ0 H0 w0) (hlo:lo≤H0.next) (h:Next lo ρ0 H0 w0 ρ H w) {bs:List Nat} {O:Objs}
  (hO:∀ k o2,(k,o2)∈O→∃ j o,(j,o)∈H.objs∧placeW H0.next bs j=some k∧renO (placeW H0.next bs) o=some o2)
  (hbs:∀ j,j∈bs→H0.next≤j)
  (hold:∀ k o,k<lo→((k,o)∈O↔(k,o)∈H0.objs)):
  Next lo ρ0 H0 w0 (mapW H0.next bs ρ0 ρ) ⟨H0.next+bs.length,O⟩ w∧∀ j k s,placeW H0.next bs j=some k→ρ j=some s→mapW H0.next bs ρ0 ρ k=some s:=by
 have hq:∀ j k s,placeW H0.next bs j=some k→ρ j=some s→mapW H0.next bs ρ0 ρ k=some s:=fun j k s hp hs=>by
  rcases placeW_cases hp with ⟨h1,rfl⟩|⟨h1,h2⟩
  ·rw[mapW_old h1,← h.same k h1];exact hs
  ·rw[mapW_new h1,h2];exact hs
 have hqe:∀ j k,placeW H0.next bs j=some k→mapW H0.next bs ρ0 ρ k=ρ j:=fun j k hp=>by
  rcases placeW_cases hp with ⟨h1,rfl⟩|⟨h1,h2⟩
  ·rw[mapW_old h1,← h.same k h1]
  ·rw[mapW_new h1,h2];rfl
 have hinj:∀ j j' k,placeW H0.next bs j=some k→placeW H0.next bs j'=some k→j=j':=fun j j' k h1 h2=>by
  rcases placeW_cases h1 with ⟨a1,rfl⟩|⟨a1,a2⟩<;>rcases placeW_cases h2 with ⟨b1,b2⟩|⟨b1,b2⟩
  ·exact b2
  ·omega
  ·omega
  ·rw[a2]at b2;exact Option.some.inj b2
 have hlt:∀ j k,placeW H0.next bs j=some k→k<H0.next+bs.length:=fun j k hp=>by
  rcases placeW_cases hp with ⟨h1,rfl⟩|⟨h1,h2⟩
  ·omega
  ·have:=(List.getElem?_eq_some_iff.1 h2).1;omega
 refine⟨?_,hq⟩
 exact
  {inv:=⟨fun k hk=>by
     simp only at hk
     rw[mapW_new (by omega),List.getElem?_eq_none (by omega)]
     rfl,
    fun k o hm=>by obtain⟨j,o1,g1,g2,g3⟩:=hO k o hm;exact hlt j k g2,
    fun k o o' h1 h2=>by
     obtain⟨j,o1,g1,g2,g3⟩:=hO k o h1
     obtain⟨j',o1',g1',g2',g3'⟩:=hO k o' h2
     have:=hinj j j' k g2 g2'
     subst this
     have:=h.inv.one j _ _ g1 g1'
     subst this
     rw[g3]at g3'
     exact Option.some.inj g3',
    ⟨fun k o hm=>by
     obtain⟨j,o1,g1,g2,g3⟩:=hO k o hm
     obtain⟨s,e1,e2⟩:=h.inv.rel.obj j o1 g1
     exact⟨s,hq j k s g2 e1,e2.ren hq g3⟩,
    fun k o k' o' s s' h1 h2 h3 h4 h5=>by
     obtain⟨j,o1,g1,g2,g3⟩:=hO k o h1
     obtain⟨j',o1',g1',g2',g3'⟩:=hO k' o' h2
     rw[hqe j k g2]at h3
     rw[hqe j' k' g2']at h4
     have:=h.inv.rel.inj j o1 j' o1' s s' g1 g1' h3 h4 h5
     subst this
     rw[g2]at g2'
     exact Option.some.inj g2'⟩⟩
   same:=fun k hk=>mapW_old hk
   nx:=Nat.le_add_right _ _
   size:=h.size
   os:=h.os
   tape:=h.tape
   output:=h.output
   keep:=h.keep
   own:=fun k o s hk hm he=>by
    obtain⟨j,o1,g1,g2,g3⟩:=hO k o hm
    rw[hqe j k g2]at he
    refine h.own j o1 s ?_ g1 he
    rcases placeW_cases g2 with ⟨h1,rfl⟩|⟨h1,h2⟩
    ·exact hk
    ·exact Nat.le_trans hlo (hbs j (List.mem_of_getElem? h2))
   old:=hold }
def takeE:List Nat→Env→Env
 |[],_=>[]
 |t::r,e=>match getE t e with
  |some v=>(t,v)::takeE r e
  |none=>takeE r e
def takeO:List Nat→Objs→Objs
 |[],_=>[]
 |b::r,O=>match look b O with
  |some o=>(b,o)::takeO r O
  |none=>takeO r O
def takeC {R:Type} (ts bs:List Nat) (k:Ex→Env→Objs→Option R):Ex→Env→AH→Option R:=fun ex e H=>k ex (takeE ts e) (takeO bs H.objs)
theorem getE_take {t:Nat} {v:Value}:∀{ts:List Nat} {e:Env},getE t (takeE ts e)=some v→getE t e=some v
 |[],e,h=>by cases h
 |u::r,e,h=>by
  unfold takeE at h; split at h
  ·rename_i v' hv; unfold getE at h; cases hb:Nat.beq u t with
   |true=>
    rw[hb]at h
    cases h
    have:=Nat.eq_of_beq_eq_true hb
    subst this; exact hv
   |false=>
    rw[hb]at h
    exact getE_take h
  ·exact getE_take h
theorem takeO_mem {k:Nat} {o:AObj}:∀{bs:List Nat} {O:Objs},(k,o)∈takeO bs O→(k,o)∈O
 |[],O,h=>by simp[takeO]at h
 |b::r,O,h=>by
  unfold takeO at h; split at h
  ·rename_i o' ho; rcases List.mem_cons.1 h with e|h
   ·cases e;exact look_mem ho
   ·exact takeO_mem h
  ·exact takeO_mem h
def renE (p:Nat→Option Nat):Env→Option Env
 |[]=>some []
 |(t,v)::r=>(renV p v).bind fun v=>(renE p r).bind fun r=>some ((t,v)::r)
def renOs (p:Nat→Option Nat):Objs→Option Objs
 |[]=>some []
 |(k,o)::r=>(p k).bind fun k=>(renO p o).bind fun o=>(renOs p r).bind fun r=>some ((k,o)::r)
theorem renE_get {p:Nat→Option Nat} {t:Nat} {v2:Value}:∀{e e2:Env},renE p e=some e2→getE t e2=some v2→∃ v,getE t e=some v∧renV p v=some v2
 |[],e2,h,g=>by cases h;cases g
 |(u,v)::r,e2,h,g=>by
  simp only[renE]at h
  obtain⟨v',h1,h2⟩:=bind_some' h
  obtain⟨r',h3,h4⟩:=bind_some' h2
  cases h4
  unfold getE at g ⊢; cases hb:Nat.beq u t with
  |true=>rw[hb]at g;cases g;exact⟨v,rfl,h1⟩
  |false=>rw[hb]at g;exact renE_get h3 g
theorem renOs_mem {p:Nat→Option Nat} {k:Nat} {o2:AObj}:∀{O O2:Objs},renOs p O=some O2→(k,o2)∈O2→∃ j o,(j,o)∈O∧p j=some k∧renO p o=some o2
 |[],O2,h,g=>by cases h;simp at g
 |(u,v)::r,O2,h,g=>by
  simp only[renOs]at h
  obtain⟨k',h0,h⟩:=bind_some' h
  obtain⟨v',h1,h2⟩:=bind_some' h
  obtain⟨r',h3,h4⟩:=bind_some' h2
  cases h4
  rcases List.mem_cons.1 g with e|g
  ·cases e;exact⟨u,v,List.mem_cons_self,h0,h1⟩
  ·obtain⟨j,o,g1,g2⟩:=renOs_mem h3 g
   exact⟨j,o,List.mem_cons_of_mem _ g1,g2⟩
def geB (lo:Nat):Objs→Bool
 |[]=>true
 |(k,_)::r=>Nat.ble lo k && geB lo r
theorem geB_mem {lo k:Nat} {o:AObj}:∀{O:Objs},geB lo O=true→(k,o)∈O→lo≤k
 |[],_,h=>by simp at h
 |(j,u)::r,g,h=>by
  simp only[geB,Bool.and_eq_true,Nat.ble_eq]at g
  rcases List.mem_cons.1 h with e|h
  ·cases e;exact g.1
  ·exact geB_mem g.2 h
theorem old_split {lo:Nat} {A B D:Objs} (hA:geB lo A=true) (hD:geB lo D=true):∀ k o,k<lo→((k,o)∈A++B↔(k,o)∈D++B):=fun k o hk=>by
 simp only[List.mem_append]
 constructor
 ·rintro (g|g)
  ·have:=geB_mem hA g;omega
  ·exact .inr g
 ·rintro (g|g)
  ·have:=geB_mem hD g;omega
  ·exact .inr g
def ltB (lo:Nat):Objs→Bool
 |[]=>true
 |(k,_)::r=>Nat.blt k lo && ltB lo r
theorem ltB_mem {lo k:Nat} {o:AObj}:∀{O:Objs},ltB lo O=true→(k,o)∈O→k<lo
 |[],_,h=>by simp at h
 |(j,u)::r,g,h=>by
  simp only[ltB,Bool.and_eq_true,Nat.blt_eq]at g
  rcases List.mem_cons.1 h with e|h
  ·cases e;exact g.1
  ·exact ltB_mem g.2 h
theorem BaseOk.told {e1 e2:Env} {H1:AH} {ts bo bs:List Nat} {A B D:Objs} (h:BaseOk P lo sz H0 e H ex e1 H1 W)
  (he:renE (placeW H0.next bs) (takeE ts e1)=some e2) (hO:renOs (placeW H0.next bs) (takeO bo H1.objs)=some A) (hbs:bs.all (Nat.ble H0.next)=true)
  (hD:H0.objs=D++B) (hB:ltB lo B=true) (hA:geB lo A=true) (hd:geB lo D=true):BaseOk P lo sz H0 e H ex e2 ⟨H0.next+bs.length,A++B⟩ W:=
 fun ρ0 w0 ρ w a hi hlo hn hev hs Q hQ=>h _ _ _ _ _ hi hlo hn hev hs Q fun ρ' a' w' m1 m2 m3 m4=>by
  have hpid:∀ k s,ρ0 k=some s→placeW H0.next bs k=some k:=fun k s hk=>by unfold placeW;rw[blt_true (hi.lt hk)];rfl
  obtain⟨g1,g2⟩:=Next.rename hi hlo m1 (bs:=bs) (O:=A++B) (fun k o2 hm=>by
   rcases List.mem_append.1 hm with hm|hm
   ·obtain⟨j,o,q1,q2⟩:=renOs_mem hO hm
    exact⟨j,o,takeO_mem q1,q2⟩
   ·have hk:=ltB_mem hB hm; have hm0:(k,o2)∈H0.objs:=by rw[hD];exact List.mem_append_right _ hm
    obtain⟨s,e1,e2⟩:=hi.rel.obj k o2 hm0
    exact⟨k,o2,(m1.old k o2 hk).2 hm0,hpid k s e1,e2.ren_id hpid⟩) (fun j hj=>by
   have:=List.all_eq_true.1 hbs j hj
   rwa [Nat.ble_eq]at this) (fun k o hk=>by rw[hD];exact old_split hA hd k o hk)
  refine hQ _ a' w' g1 (fun t v hv=>?_) m3 m4
  obtain⟨v1,q1,q2⟩:=renE_get he hv
  obtain⟨v',r1,r2⟩:=m2 t v1 (getE_take q1)
  exact⟨v',r1,r2.ren g2 q2⟩
end
def BaseRounds (P:Program) (lo sz:Nat) (H0:AH) (a:Code) (e:Env) (H:AH) (ex:Ex) (e':Env) (H':AH):Prop:=
 ∃ n,BaseOk P lo sz H0 e H ex e' H' (fun Q act w=>Code.rounds P a Q n act w)
theorem base_step {P:Program} {lo sz:Nat} {a:Code} {H0:AH} {e e1 e':Env} {H H1 H':AH} {ex:Ex} (h1:BaseOk P lo sz H0 e H .normal e1 H1 (fun Q act w=>a.wp P Q act w)) (h2:BaseRounds P lo sz H0 a e1 H1 ex e' H'):BaseRounds P lo sz H0 a e H ex e' H':=by
 obtain⟨n,h2⟩:=h2
 refine⟨n+1,fun ρ0 w0 ρ w act hi hlo hn he hs Q hQ=>?_⟩
 show Code.wp P a (Exit.then (Code.rounds P a Q n) Q) act w; refine h1 _ _ _ _ _ hi hlo hn he hs _ fun ρ1 a1 w1 m1 m2 m3 m4=>?_
 exact h2 _ _ _ _ _ hi hlo m1 m2 m3 Q fun ρ' a' w' q1 q2 q3 q4=>hQ ρ' a' w' q1 q2 q3 (q4.trans m4)
theorem base_end {P:Program} {lo sz:Nat} {a:Code} {H0:AH} {e e':Env} {H H':AH} {ex:Ex} (hne:ex≠.normal) (h1:BaseOk P lo sz H0 e H ex e' H' (fun Q act w=>a.wp P Q act w)):BaseRounds P lo sz H0 a e H ex e' H':=by
 refine⟨1,fun ρ0 w0 ρ w act hi hlo hn he hs Q hQ=>?_⟩
 show Code.wp P a (Exit.then (Code.rounds P a Q 0) Q) act w; refine h1 _ _ _ _ _ hi hlo hn he hs _ fun ρ1 a1 w1 m1 m2 m3 m4=>wp_exits (P:=P) hne (hQ ρ1 a1 w1 m1 m2 m3 m4)
theorem base_loop {P:Program} {lo sz:Nat} {a:Code} {e e':Env} {H H':AH} {ex:Ex} (h:BaseRounds P lo sz H a e H ex e' H'):CodeOk P lo sz e H ex e' H' (fun Q act w=>Code.wp P (.loop a) Q act w):=by
 obtain⟨n,h⟩:=h
 exact fun{ρ w act} hi hlo he hs Q hQ=>wp_loop_rounds n (h _ _ _ _ _ hi hlo (Next.refl hi) he hs Q hQ)
theorem base_count {P:Program} {lo sz:Nat} {a:Code} {H0:AH} {E:Nat→Env} {H:Nat→AH} {ex:Ex} {e':Env} {H':AH}:∀(j k:Nat),
  (∀ i,k≤i→i<k+j→BaseOk P lo sz H0 (E i) (H i) .normal (E (i+1)) (H (i+1)) (fun Q act w=>a.wp P Q act w))→BaseRounds P lo sz H0 a (E (k+j)) (H (k+j)) ex e' H'→
  BaseRounds P lo sz H0 a (E k) (H k) ex e' H'
 |0,k,_,he=>he
 |j+1,k,hs,he=>base_step (hs k (Nat.le_refl _) (by omega)) (base_count j (k+1) (fun i h1 h2=>hs i (by omega) (by omega)) (by rw[show k+1+j=k+(j+1) by omega];exact he))
theorem round_told {C:Cx} (hC:C.Ok) (hmix:C.P.follows .mixedOrders=true) {n lo sz:Nat} {c:Code} (hl:loopsIn c=[]) {H0:AH} {e:Env} {H:AH} {ts bo bs:List Nat} {ex:Ex} {e1 e2:Env} {O1 A B D:Objs}
  (h:evTop C n noL lo sz c e H (takeC ts bo fun ex e O=>some (ex,e,O))=some (ex,e1,O1))
  (he:renE (placeW H0.next bs) e1=some e2) (hO:renOs (placeW H0.next bs) O1=some A) (hbs:bs.all (Nat.ble H0.next)=true)
  (hD:H0.objs=D++B) (hB:ltB lo B=true) (hA:geB lo A=true) (hd:geB lo D=true):BaseOk C.P lo sz H0 e H ex e2 ⟨H0.next+bs.length,A++B⟩ (fun Q a w=>c.wp C.P Q a w):=by
 obtain⟨ex1,e',H',g1,g2⟩:=evTop_sound hC hmix c (L:=noL) (n:=n) (by rw[hl];intro a ha;simp at ha) _ _ _ _ h
 unfold takeC at g1; cases g1; exact @BaseOk.told C.P lo sz H0 H e ex (fun Q a w=>c.wp C.P Q a w) e' e2 H' ts bo bs A B D (CodeOk.base @g2) he hO hbs hD hB hA hd
theorem round_toldL {C:Cx} (hC:C.Ok) (hmix:C.P.follows .mixedOrders=true) {n lo sz:Nat} {c:Code} {L:Hand} (hl:∀ a∈loopsIn c,LOk C.P L a) {H0:AH} {e:Env} {H:AH} {ts bo bs:List Nat} {ex:Ex} {e1 e2:Env} {O1 A B D:Objs}
  (h:evTop C n L lo sz c e H (takeC ts bo fun ex e O=>some (ex,e,O))=some (ex,e1,O1))
  (he:renE (placeW H0.next bs) e1=some e2) (hO:renOs (placeW H0.next bs) O1=some A) (hbs:bs.all (Nat.ble H0.next)=true)
  (hD:H0.objs=D++B) (hB:ltB lo B=true) (hA:geB lo A=true) (hd:geB lo D=true):BaseOk C.P lo sz H0 e H ex e2 ⟨H0.next+bs.length,A++B⟩ (fun Q a w=>c.wp C.P Q a w):=by
 obtain⟨ex1,e',H',g1,g2⟩:=evTop_sound hC hmix c (L:=L) (n:=n) hl _ _ _ _ h
 unfold takeC at g1; cases g1; exact @BaseOk.told C.P lo sz H0 H e ex (fun Q a w=>c.wp C.P Q a w) e' e2 H' ts bo bs A B D (CodeOk.base @g2) he hO hbs hD hB hA hd
structure Within (q:Nat→Option Nat) (Hc H:AH):Prop where
 obj:∀ j o,(j,o)∈Hc.objs→∃ k o2,q j=some k∧renO q o=some o2∧(k,o2)∈H.objs
 lt:∀ j o,(j,o)∈Hc.objs→j<Hc.next
 one:∀ j o o',(j,o)∈Hc.objs→(j,o')∈Hc.objs→o=o'
 inj:∀ j j' k,q j=some k→q j'=some k→j=j'
 dom:∀ j k,q j=some k→j<Hc.next
def pullM (q:Nat→Option Nat) (ρ:Map):Map:=fun j=>(q j).bind ρ
theorem pull_inv {q:Nat→Option Nat} {Hc H:AH} {ρ:Map} {w:World} (hq:Within q Hc H) (hi:Inv ρ H w):Inv (pullM q ρ) Hc w:=by
 have hb:∀ j k s,q j=some k→ρ k=some s→pullM q ρ j=some s:=fun j k s h1 h2=>by unfold pullM;rw[h1];exact h2
 refine⟨fun k hk=>?_,hq.lt,hq.one,⟨fun j o hm=>?_,fun j o j' o' s s' h1 h2 h3 h4 h5=>?_⟩⟩
 ·unfold pullM; cases h:q k with
  |none=>rfl
  |some u=>have:=hq.dom k u h;omega
 ·obtain⟨k,o2,h1,h2,h3⟩:=hq.obj j o hm
  obtain⟨s,e1,e2⟩:=hi.rel.obj k o2 h3
  exact⟨s,hb j k s h1 e1,e2.unren hb h2⟩
 ·obtain⟨k,o2,g1,g2,g3⟩:=hq.obj j o h1
  obtain⟨k',o2',g1',g2',g3'⟩:=hq.obj j' o' h2
  unfold pullM at h3 h4
  rw[g1]at h3
  rw[g1']at h4
  have:=hi.rel.inj k o2 k' o2' s s' g3 g3' h3 h4 h5
  subst this; exact hq.inj _ _ _ g1 g1'
theorem pull_vals {q:Nat→Option Nat} {ρ:Map} {argsc args args':List Value} (ha:renL q argsc=some args) (h:VRels ρ args args'):VRels (pullM q ρ) argsc args':=
 VRels.unren (fun j k s h1 h2=>by unfold pullM;rw[h1];exact h2) ha h
theorem calls_pull {P:Program} {f:FuncId} {argsc args:List Value} {q:Nat→Option Nat} {Hc H:AH} {v:Value} (hq:Within q Hc H) (ha:renL q argsc=some args)
  (h:∀ ρ w args',Inv ρ Hc w→VRels ρ argsc args'→Calls P f ⟨args'⟩ w fun e w'=>e=.returned v∧RowKit.Below w.heap.size w w'):
  ∀ ρ w args',Inv ρ H w→VRels ρ args args'→Calls P f ⟨args'⟩ w fun e w'=>e=.returned v∧RowKit.Below w.heap.size w w':=
 fun ρ w args' hi hr=>h _ w args' (pull_inv hq hi) (pull_vals ha hr)
def placeC (q:Nat→Option Nat) (m n:Nat) (bs:List Nat) (j:Nat):Option Nat:=bif Nat.blt j m then q j else placeIn bs n j
theorem calls_lift {P:Program} {f:FuncId} {argsc args:List Value} {q:Nat→Option Nat} {Hc Hc' H:AH} {v v2:Value} {bs:List Nat} {A:Objs} (hq:Within q Hc H) (ha:renL q argsc=some args)
  (hv:renV (placeC q Hc.next H.next bs) v=some v2) (hA:∀ k o2,(k,o2)∈A→∃ j o,(j,o)∈Hc'.objs∧placeIn bs H.next j=some k∧renO (placeC q Hc.next H.next bs) o=some o2) (hbs:∀ j,j∈bs→Hc.next≤j)
  (h:∀ ρ w args',Inv ρ Hc w→VRels ρ argsc args'→Calls P f ⟨args'⟩ w fun e w'=>∃ ρ' v',e=.returned v'∧VRel ρ' v v'∧Next Hc.next ρ Hc w ρ' Hc' w'):
  ∀(lo:Nat) (ρ:Map) (w:World) (args':List Value),Inv ρ H w→lo≤H.next→VRels ρ args args'→
   Calls P f ⟨args'⟩ w fun e w'=>∃ ρ' v',e=.returned v'∧VRel ρ' v2 v'∧Next lo ρ H w ρ' ⟨H.next+bs.length,A++H.objs⟩ w':=by
 intro lo ρ w args' hi hlo hr
 refine(h _ w args' (pull_inv hq hi) (pull_vals ha hr)).mono ?_
 rintro e w' ⟨ρ',v',rfl,g,hn⟩
 have same:∀ j,j<Hc.next→ρ' j=(q j).bind ρ:=hn.same; have keep:∀ b,b<w.heap.size→w'.heap[b]?=w.heap[b]?:=fun b hb=>hn.keep b hb fun k o s hk hm=>absurd (hq.lt k o hm) (by omega)
 have own:∀ k o s,Hc.next≤k→(k,o)∈Hc'.objs→ρ' k=some s→w.heap.size≤s.b:=fun k o s hk hm he=>by
  rcases hn.own k o s hk hm he with g|⟨k',o',s',g1,g2,_⟩
  ·exact g
  ·exact absurd (hq.lt k' o' g2) (by omega)
 let ρ2:Map:=mapW H.next bs ρ ρ'
 have old:∀ k s,ρ k=some s→ρ2 k=some s:=fun k s hk=>by
  show mapW H.next bs ρ ρ' k=some s
  rw[mapW_old (hi.lt hk)];exact hk
 have new:∀ j k,placeIn bs H.next j=some k→ρ2 k=ρ' j:=fun j k hk=>by
  obtain⟨h1,h2⟩:=placeIn_get hk
  show mapW H.next bs ρ ρ' k=ρ' j
  rw[mapW_new h1,h2];rfl
 have hb:∀ j k s,placeC q Hc.next H.next bs j=some k→ρ' j=some s→ρ2 k=some s:=fun j k s h1 h2=>by
  unfold placeC at h1; cases hl:Nat.blt j Hc.next with
  |true=>
   rw[hl,cond_true]at h1
   rw[Nat.blt_eq]at hl
   rw[same j hl,h1]at h2
   exact old k s h2
  |false=>
   rw[hl,cond_false]at h1
   rw[new j k h1];exact h2
 have newj:∀ j k,placeIn bs H.next j=some k→H.next≤k∧k<H.next+bs.length∧Hc.next≤j:=fun j k hk=>by
  obtain⟨h1,h2⟩:=placeIn_get hk
  have:=(List.getElem?_eq_some_iff.1 h2).1
  exact⟨h1,by omega,hbs j (List.mem_of_getElem? h2)⟩
 have pinj:∀ j j' k,placeIn bs H.next j=some k→placeIn bs H.next j'=some k→j=j':=fun j j' k h1 h2=>by
  have a:=(placeIn_get h1).2; have b:=(placeIn_get h2).2
  rw[a]at b
  exact Option.some.inj b
 refine⟨ρ2,v',rfl,g.ren hb hv,?_⟩
 exact
  {inv:=⟨fun k hk=>by
     simp only at hk; show mapW H.next bs ρ ρ' k=none
     rw[mapW_new (by omega),List.getElem?_eq_none (by omega)]
     rfl,
    fun k o hm=>by
     rcases List.mem_append.1 hm with hm|hm
     ·obtain⟨j,o1,g1,g2,g3⟩:=hA k o hm
      exact(newj j k g2).2.1
     ·have:=hi.wf k o hm;show k<H.next+bs.length;omega,
    fun k o o' h1 h2=>by
     rcases List.mem_append.1 h1 with h1|h1<;>rcases List.mem_append.1 h2 with h2|h2
     ·obtain⟨j,o1,g1,g2,g3⟩:=hA k o h1
      obtain⟨j',o1',g1',g2',g3'⟩:=hA k o' h2
      have:=pinj j j' k g2 g2'
      subst this
      have:=hn.inv.one j _ _ g1 g1'
      subst this
      rw[g3]at g3'
      exact Option.some.inj g3'
     ·obtain⟨j,o1,g1,g2,g3⟩:=hA k o h1
      have:=(newj j k g2).1
      have:=hi.wf k o' h2
      omega
     ·obtain⟨j,o1,g1,g2,g3⟩:=hA k o' h2
      have:=(newj j k g2).1
      have:=hi.wf k o h1
      omega
     ·exact hi.one k o o' h1 h2,
    ⟨fun k o hm=>by
     rcases List.mem_append.1 hm with hm|hm
     ·obtain⟨j,o1,g1,g2,g3⟩:=hA k o hm
      obtain⟨s,e1,e2⟩:=hn.inv.rel.obj j o1 g1
      exact⟨s,by rw[new j k g2];exact e1,e2.ren hb g3⟩
     ·obtain⟨s,e1,e2⟩:=hi.rel.obj k o hm
      exact⟨s,old k s e1,(e2.mono old).heap (keep s.b e2.lt)⟩,
    fun k o k' o' s s' h1 h2 h3 h4 h5=>by
     rcases List.mem_append.1 h1 with h1|h1<;>rcases List.mem_append.1 h2 with h2|h2
     ·obtain⟨j,o1,g1,g2,g3⟩:=hA k o h1
      obtain⟨j',o1',g1',g2',g3'⟩:=hA k' o' h2
      rw[new j k g2]at h3
      rw[new j' k' g2']at h4
      have:=hn.inv.rel.inj j o1 j' o1' s s' g1 g1' h3 h4 h5
      subst this
      rw[g2]at g2'
      exact Option.some.inj g2'
     ·obtain⟨j,o1,g1,g2,g3⟩:=hA k o h1
      rw[new j k g2]at h3
      have a:=own j o1 s (newj j k g2).2.2 g1 h3
      obtain⟨s2,e1,e2⟩:=hi.rel.obj k' o' h2
      rw[old k' s2 e1]at h4
      cases h4
      have:=e2.lt
      omega
     ·obtain⟨j,o1,g1,g2,g3⟩:=hA k' o' h2
      rw[new j k' g2]at h4
      have a:=own j o1 s' (newj j k' g2).2.2 g1 h4
      obtain⟨s2,e1,e2⟩:=hi.rel.obj k o h1
      rw[old k s2 e1]at h3
      cases h3
      have:=e2.lt
      omega
     ·obtain⟨s2,e1,e2⟩:=hi.rel.obj k o h1
      obtain⟨s3,e3,e4⟩:=hi.rel.obj k' o' h2
      rw[old k s2 e1]at h3
      rw[old k' s3 e3]at h4
      cases h3
      cases h4
      exact hi.rel.inj k o k' o' s s' h1 h2 e1 e3 h5⟩⟩
   same:=fun k hk=>mapW_old hk
   nx:=Nat.le_add_right _ _
   size:=hn.size
   os:=hn.os
   tape:=hn.tape
   output:=hn.output
   keep:=fun b hb' _=>keep b hb'
   own:=fun k o s hk hm he=>by
    rcases List.mem_append.1 hm with hm|hm
    ·obtain⟨j,o1,g1,g2,g3⟩:=hA k o hm
     rw[new j k g2]at he
     exact .inl (own j o1 s (newj j k g2).2.2 g1 he)
    ·obtain⟨s2,e1,e2⟩:=hi.rel.obj k o hm
     rw[old k s2 e1]at he
     cases he
     exact .inr ⟨k,o,_,hk,hm,e1,rfl⟩
   old:=fun k o hk=>by
    simp only[List.mem_append]
    constructor
    ·rintro (hm|hm)
     ·obtain⟨j,o1,g1,g2,g3⟩:=hA k o hm
      have:=(newj j k g2).1
      omega
     ·exact hm
    ·exact fun hm=>.inr hm }
theorem calls_next {P:Program} {f:FuncId} {fn:Func} {c:Code} {args:List Value} {H H':AH} {e':Env} {ex:Ex} {vs:List Value} (hf:P.funcs[f]?=some fn) (hb:fn.body=some c) (hl:args.length≤fn.ntmps)
  (h:CodeOk P H.next fn.ntmps (enumE 0 args) H ex e' H' (fun Q a w=>c.wp P Q a w)) (hex:ex=.normal∨ex=.ret) (hr:resE P e' H' fn.results.toList=some vs):
  ∀ ρ w args',Inv ρ H w→VRels ρ args args'→Calls P f ⟨args'⟩ w fun e w'=>∃ ρ' v',e=.returned v'∧VRel ρ' (oneOf vs) v'∧Next H.next ρ H w ρ' H' w':=by
 intro ρ w args' hi ha; have hlen:=ha.length; refine calls_of_wp hf hb ?_; refine h hi (Nat.le_refl _) (enum_rel ha _) (by simp;omega) _ fun ρ' a' w' n1 n2 n3 n4=>?_
 obtain⟨v',r1,r2⟩:=results_run hr n1.inv n2
 have post:a'.defers=[]∧∃ v,(results fn a'.tmps).run P w'=.ok v w'∧∃ ρ' v',Ending.returned v=.returned v'∧VRel ρ' (oneOf vs) v'∧Next H.next ρ H w ρ' H' w':=
  ⟨n4,v',r1,ρ',v',rfl,r2,n1⟩
 rcases hex with rfl|rfl
 ·exact post
 ·exact post
open Ieee
def eqF (a b:Nat):Bool:=ordW a b == some .eq
def neF (a b:Nat):Bool:=ordW a b != some .eq
def leF (a b:Nat):Bool:=ordW a b == some .lt || ordW a b == some .eq
def geF (a b:Nat):Bool:=ordW a b == some .gt || ordW a b == some .eq
def ltF (a b:Nat):Bool:=ordW a b == some .lt
def gtF (a b:Nat):Bool:=ordW a b == some .gt
def addK:KCCC:=fun R a b c d k=>bindF (fbF .add a c) fun x=>bindF (fbF .add b d) fun y=>k x y
def subK:KCCC:=fun R a b c d k=>bindF (fbF .sub a c) fun x=>bindF (fbF .sub b d) fun y=>k x y
def mulK:KCCC:=fun R a b c d k=>
  bindF (fbF .mul a c) fun x1=>bindF (fbF .mul b d) fun x2=>bindF (fbF .sub x1 x2) fun re=>
  bindF (fbF .mul a d) fun x3=>bindF (fbF .mul b c) fun x4=>bindF (fbF .add x3 x4) fun im=>k re im
def negK:KCC:=fun R a b k=>forceN (Op.negFloat .f64 a) fun x=>forceN (Op.negFloat .f64 b) fun y=>k x y
def likeK:KFFB:=fun R a b k=>forceB (eqF a b) fun t=>match t with
 |true=>k true
 |false=>forceB (neF a a) fun t=>match t with
  |true=>forceB (neF b b) fun t=>k t
  |false=>k false
def noughtK:KCB:=fun R a b k=>forceB (eqF a 0) fun t=>match t with
 |true=>forceB (eqF b 0) fun t=>k t
 |false=>k false
def absW (a:Nat):Nat:=(IntKind.u64.wrap ((BitVec.ofInt 64 a &&& ~~~(BitVec.ofInt 64 9223372036854775808)).toNat:Nat)).toNat
def absK:KFF:=fun R a k=>k (absW a)
def withinB (ab:KFF):KFFB:=fun R a m k=>ab R a fun x=>forceB (leF x m) fun t=>k t
def WithinB (wi:KFFB):KCFB:=fun R a b m k=>wi R a m fun t=>forceB t fun t=>match t with
 |true=>wi R b m fun t=>forceB t fun t=>k t
 |false=>k false
def placeB (wi:KCFB):KCB:=fun R a b k=>wi R a b 4787326403894837248 fun t=>forceB t fun t=>k t
def andU (x y:Int):Int:=IntKind.u64.wrap ((BitVec.ofInt 64 x &&& BitVec.ofInt 64 y).toNat:Nat)
def andI (x y:Int):Int:=IntKind.i64.wrap ((BitVec.ofInt 64 x &&& BitVec.ofInt 64 y).toNat:Nat)
def andNotU (x y:Int):Int:=IntKind.u64.wrap ((BitVec.ofInt 64 x &&& ~~~(BitVec.ofInt 64 y)).toNat:Nat)
def orU (x y:Int):Int:=IntKind.u64.wrap ((BitVec.ofInt 64 x ||| BitVec.ofInt 64 y).toNat:Nat)
def shrU (x n:Int):Int:=x.fdiv (2^min n.toNat IntKind.u64.bits)
def shlU (x n:Int):Int:=IntKind.u64.wrap (x*2^min n.toNat IntKind.u64.bits)
abbrev KFFI:=∀ R:Type,Nat→(Nat→Int→Option R)→Option R
abbrev KFIF:=∀ R:Type,Nat→Int→(Nat→Option R)→Option R
abbrev KCF:=∀ R:Type,Nat→Nat→(Nat→Option R)→Option R
abbrev KCCI:=∀ R:Type,Nat→Nat→(Nat→Nat→Int→Option R)→Option R
abbrev KCCFB:=∀ R:Type,Nat→Nat→Nat→Nat→Nat→(Bool→Option R)→Option R
def sInf (g:KFB):Sum:=fun R args k=>match args with
 |[.float .f64 a,.int .i64 s]=>bif s == 0 then g R a fun t=>forceB t fun t=>k (.bool t) else none
 |_=>none
def sFFI (g:KFFI):Sum:=fun R args k=>match args with
 |[.float .f64 a]=>g R a fun x e=>k (.tuple ⟨[.float .f64 x,.int .i64 e]⟩)
 |_=>none
def sFIF (g:KFIF):Sum:=fun R args k=>match args with
 |[.float .f64 a,.int .i64 e]=>g R a e fun x=>k (.float .f64 x)
 |_=>none
def sCF (g:KCF):Sum:=fun R args k=>match args with
 |[.complex .f64 a b]=>g R a b fun x=>k (.float .f64 x)
 |_=>none
def sCCI (g:KCCI):Sum:=fun R args k=>match args with
 |[.complex .f64 a b]=>g R a b fun x y e=>k (.tuple ⟨[.complex .f64 x y,.int .i64 e]⟩)
 |_=>none
def sCCFB (g:KCCFB):Sum:=fun R args k=>match args with
 |[.complex .f64 a b,.complex .f64 c d,.float .f64 m]=>g R a b c d m fun t=>forceB t fun t=>k (.bool t)
 |_=>none
def sNever:Sum:=fun R args k=>none
def isInfB (ab:KFF):KFB:=fun R a k=>ab R a fun x=>forceB (gtF x 9218868437227405311) fun t=>k t
def isNanK:KFB:=fun R a k=>forceB (neF a a) fun t=>k t
def normB (ab:KFF):KFFI:=fun R a k=>ab R a fun x=>forceB (ltF x 4503599627370496) fun t=>match t with
 |true=>bindF (fbF .mul a 4841369599423283200) fun y=>k y (-52)
 |false=>k a 0
def expoOf {R:Type} (fi:Fi) (y:Nat) (k:Int→Option R):Option R:=fi R (IntKind.i64.wrap (andU (shrU y 52) 2047)) k
def frexpTail {R:Type} (fi:Fi) (y:Nat) (e:Int) (k:Nat→Int→Option R):Option R:=
 expoOf fi y fun n1=>fi R (IntKind.i64.wrap (n1-1023)) fun n2=>fi R (IntKind.i64.wrap (n2+1)) fun n3=>fi R (IntKind.i64.wrap (e+n3)) fun n4=>
  k (orU (andNotU y 9218868437227405312) 4602678819172646912).toNat n4
def frexpB (fi:Fi) (inf nan:KFB) (nm:KFFI):KFFI:=fun R a k=>forceB (eqF a 0) fun t=>match t with
 |true=>k a 0
 |false=>inf R a fun t=>forceB t fun t=>match t with
  |true=>k a 0
  |false=>nan R a fun t=>forceB t fun t=>match t with
   |true=>k a 0
   |false=>nm R a fun y e=>frexpTail fi y e k
def ldexpEnd {R:Type} (fi:Fi) (y:Nat) (ex:Int) (m:Nat) (k:Nat→Option R):Option R:=
 fi R (IntKind.i64.wrap (ex+1023)) fun n1=>fi R (IntKind.u64.wrap n1) fun n2=>
  bindF (fbF .mul m (orU (andNotU y 9218868437227405312) (shlU n2 52)).toNat) k
abbrev KFFF:=∀ R:Type,Nat→Nat→(Nat→Option R)→Option R
def sFFF (g:KFFF):Sum:=fun R args k=>match args with
 |[.float .f64 a,.float .f64 b]=>g R a b fun x=>k (.float .f64 x)
 |_=>none
def copyK:KFFF:=fun R a b k=>k (orU (andNotU a 9223372036854775808) (andU b 9223372036854775808)).toNat
def ldexpTail {R:Type} (fi:Fi) (cp:KFFF) (y:Nat) (e n:Int) (k:Nat→Option R):Option R:=
 fi R (IntKind.i64.wrap (n+e)) fun n1=>fi R (IntKind.i64.wrap (shrU y 52)) fun n2=>fi R (IntKind.i64.wrap (andI n2 2047-1023)) fun n3=>fi R (IntKind.i64.wrap (n1+n3)) fun ex=>
  forceB (decide (ex < -1075)) fun t=>match t with
  |true=>cp R 0 y k
  |false=>forceB (decide (ex > 1023)) fun t=>match t with
   |true=>forceB (ltF y 0) fun _=>none
   |false=>forceB (decide (ex < -1022)) fun t=>match t with
    |true=>fi R (IntKind.i64.wrap (ex+53)) fun ex=>ldexpEnd fi y ex 4368491638549381120 k
    |false=>ldexpEnd fi y ex 4607182418800017408 k
def ldexpB (fi:Fi) (cp:KFFF) (inf nan:KFB) (nm:KFFI):KFIF:=fun R a n k=>forceB (eqF a 0) fun t=>match t with
 |true=>k a
 |false=>inf R a fun t=>forceB t fun t=>match t with
  |true=>k a
  |false=>nan R a fun t=>forceB t fun t=>match t with
   |true=>k a
   |false=>nm R a fun y e=>ldexpTail fi cp y e n k
def clampI (n:Int):Int:=if (if n<5000 then n else 5000) > -5000 then (if n<5000 then n else 5000) else -5000
def scaleB (ld:KFIF):KFIF:=fun R a n k=>ld R a (clampI n) k
def greatestB (ab:KFF):KCF:=fun R a b k=>ab R a fun x=>ab R b fun y=>forceB (gtF y x) fun t=>match t with
 |true=>k y
 |false=>k x
def scaledB (gr:KCF) (pa:KFFI) (sc:KFIF):KCCI:=fun R a b k=>gr R a b fun g=>pa R g fun _ e=>
 sc R a (IntKind.i64.wrap (0-e)) fun x=>sc R b (IntKind.i64.wrap (0-e)) fun y=>k x y e
def squareK:KCF:=fun R a b k=>bindF (fbF .mul a a) fun x=>bindF (fbF .mul b b) fun y=>bindF (fbF .add x y) k
def lengthB (inf nan:KFB) (gr:KCF) (sd:KCCI) (sq:KCF) (rt:KFF) (sc:KFIF):KCF:=fun R a b k=>
 inf R a fun t=>forceB t fun t=>match t with
 |true=>none
 |false=>inf R b fun t=>forceB t fun t=>match t with
  |true=>none
  |false=>nan R a fun t=>forceB t fun t=>match t with
   |true=>none
   |false=>nan R b fun t=>forceB t fun t=>match t with
    |true=>none
    |false=>gr R a b fun g=>forceB (eqF g 0) fun t=>match t with
     |true=>k 0
     |false=>sd R a b fun x y e=>sq R x y fun s=>rt R s fun r=>sc R r e k
def nearB (sub:KCCC) (len:KCF):KCCFB:=fun R a b c d m k=>sub R a b c d fun x y=>len R x y fun l=>forceB (leF l m) fun t=>k t
def finiteB (ab:KFF):KFB:=fun R a k=>ab R a fun x=>forceB (leF x 9218868437227405311) fun t=>k t
def FiniteB (fi:KFB):KCB:=fun R a b k=>fi R a fun t=>forceB t fun t=>match t with
 |true=>fi R b fun t=>forceB t fun t=>k t
 |false=>k false
def divB (ab:KFF):KCCC:=fun R p q r s k=>
 ab R r fun x=>ab R s fun y=>forceB (geF x y) fun t=>match t with
 |true=>bindF (fbF .quo s r) fun h=>bindF (fbF .mul s h) fun sh=>bindF (fbF .add r sh) fun t=>
   bindF (fbF .mul q h) fun qh=>bindF (fbF .add p qh) fun n1=>bindF (fbF .quo n1 t) fun re=>
   bindF (fbF .mul p h) fun ph=>bindF (fbF .sub q ph) fun n2=>bindF (fbF .quo n2 t) fun im=>k re im
 |false=>bindF (fbF .quo r s) fun h=>bindF (fbF .mul r h) fun rh=>bindF (fbF .add rh s) fun t=>
   bindF (fbF .mul p h) fun ph=>bindF (fbF .add ph q) fun n1=>bindF (fbF .quo n1 t) fun re=>
   bindF (fbF .mul q h) fun qh=>bindF (fbF .sub qh p) fun n2=>bindF (fbF .quo n2 t) fun im=>k re im
end Go.Vm
