/- A part; no conditions. -/
import Derived.Test.YtaogignikkjkjaaGreatVmF0
set_option maxRecDepth 1000000
set_option maxHeartbeats 1000000
set_option linter.all false
open Bool renaming and_eq_true->B9
open Go renaming Value->V9,Program->Q9,World->W9,IntKind->K9,Code->H9
namespace Go.Vm
mutual
def nH(p:Nat->Option Nat):V9->Option V9
 |.pointer (some ⟨b,o,s⟩)=>match s with
  |none=>(p b).bind λb=>some (.pointer (some ⟨b,o,none⟩))
  |some _=>none
 |.slice (some ⟨b,o,s⟩) n c=>match s with
  |none=>(p b).bind λb=>some (.slice (some ⟨b,o,none⟩) n c)
  |some _=>none
 |.map (some b)=>(p b).bind λb=>some (.map (some b))
 |.chan _=>none
 |.func f as bs=>(aWg p as).bind λas=>(aWg p bs).bind λbs=>some (.func f as bs)
 |.iface t v=>(nH p v).bind λv=>some (.iface t v)
 |.agg as=>(aWg p as).bind λas=>some (.agg as)
 |.tuple as=>(aWg p as).bind λas=>some (.tuple as)
 |v=>some v
def aWg(p:Nat->Option Nat):Array V9->Option (Array V9)
 |⟨l⟩=>(qJ p l).bind λl=>some ⟨l⟩
def qJ(p:Nat->Option Nat):List V9->Option (List V9)
 |[]=>some []
 |v::r=>(nH p v).bind λv=>(qJ p r).bind λr=>some (v::r)
end
theorem qA{p:Nat->Option Nat}{l:List V9}{a:Array V9}(h:aWg p ⟨l⟩=some a):∃l2,qJ p l=some l2/\a=⟨l2⟩:=by simp only[aWg]at h;obtain⟨l2,h1,h2⟩:=aB h;cases h2;exact⟨l2,h1,rfl⟩
section
variable{ρ ρ2:Map}{p:Nat->Option Nat}
mutual
theorem dW.ren(hq:∀j k s,p j=some k->ρ j=some s->ρ2 k=some s):∀{v v':V9},dW ρ v v'->∀{v2:V9},nH p v=some v2->dW ρ2 v2 v'
 |_,_,.bool b,_,h=>by cases h;exact .bool b
 |_,_,.int k n,_,h=>by cases h;exact .int k n
 |_,_,.float n,_,h=>by cases h;exact .float n
 |_,_,.nan n g,_,h=>by cases h;exact .nan n g
 |_,_,.complex a b,_,h=>by cases h;exact .complex a b
 |_,_,.cnan g1 g2,_,h=>by cases h;exact .cnan g1 g2
 |_,_,.string s,_,h=>by cases h;exact .string s
 |_,_,.nilPtr,_,h=>by cases h;exact .nilPtr
 |_,_,.ptr g,_,h=>by obtain⟨b,h1,h2⟩:=aB h;cases h2;exact .ptr (hq _ _ _ h1 g)
 |_,_,.nilSlice n c,_,h=>by cases h;exact .nilSlice n c
 |_,_,.slice g,_,h=>by obtain⟨b,h1,h2⟩:=aB h;cases h2;exact .slice (hq _ _ _ h1 g)
 |_,_,.nilMap,_,h=>by cases h;exact .nilMap
 |_,_,.map g,_,h=>by obtain⟨b,h1,h2⟩:=aB h;cases h2;exact .map (hq _ _ _ h1 g)
 |_,_,.nilFunc,_,h=>by cases h;exact .nilFunc
 |_,_,.func f ha hb,_,h=>by simp only[nH]at h;obtain⟨a2,h1,h2⟩:=aB h;obtain⟨b2,h3,h4⟩:=aB h2;cases h4;obtain⟨l1,g1,rfl⟩:=qA h1;obtain⟨l2,g2,rfl⟩:=qA h3;exact .func f (cF.ren hq ha g1) (cF.ren hq hb g2)
 |_,_,.nilIface,_,h=>by cases h;exact .nilIface
 |_,_,.iface t g,_,h=>by simp only[nH]at h;obtain⟨b,h1,h2⟩:=aB h;cases h2;exact .iface t (dW.ren hq g h1)
 |_,_,.agg g,_,h=>by simp only[nH]at h;obtain⟨b,h1,h2⟩:=aB h;cases h2;obtain⟨l1,g1,rfl⟩:=qA h1;exact .agg (cF.ren hq g g1)
 |_,_,.tuple g,_,h=>by simp only[nH]at h;obtain⟨b,h1,h2⟩:=aB h;cases h2;obtain⟨l1,g1,rfl⟩:=qA h1;exact .tuple (cF.ren hq g g1)
theorem cF.ren(hq:∀j k s,p j=some k->ρ j=some s->ρ2 k=some s):∀{v v':List V9},cF ρ v v'->∀{v2:List V9},qJ p v=some v2->cF ρ2 v2 v'
 |_,_,.nil,_,h=>by cases h;exact .nil
 |_,_,.cons g gs,_,h=>by simp only[qJ]at h;obtain⟨a,h1,h2⟩:=aB h;obtain⟨b,h3,h4⟩:=aB h2;cases h4;exact .cons (dW.ren hq g h1) (cF.ren hq gs h3)
end
mutual
theorem dW.unren(hq:∀j k s,p j=some k->ρ2 k=some s->ρ j=some s):∀{v v2 v':V9},nH p v=some v2->dW ρ2 v2 v'->dW ρ v v'
 |.bool _,_,_,h,g=>by cases h;cases g;exact .bool _
 |.int _ _,_,_,h,g=>by cases h;cases g;exact .int _ _
 |.float .f64 _,_,_,h,g=>by cases h;cases g;exact .float _
 |.float .f32 _,_,_,h,g=>by cases h;cases g with|nan _ q=>exact .nan _ q
 |.complex .f64 _ _,_,_,h,g=>by cases h;cases g;exact .complex _ _
 |.complex .f32 _ _,_,_,h,g=>by cases h;cases g with|cnan q1 q2=>exact .cnan q1 q2
 |.string _,_,_,h,g=>by cases h;cases g;exact .string _
 |.pointer none,_,_,h,g=>by cases h;cases g;exact .nilPtr
 |.pointer (some ⟨b,o,none⟩),_,_,h,g=>by obtain⟨b,h1,h2⟩:=aB h;cases h2;cases g with|ptr g=>exact .ptr (hq _ _ _ h1 g)
 |.pointer (some ⟨b,o,some _⟩),_,_,h,g=>by cases h
 |.slice none _ _,_,_,h,g=>by cases h;cases g;exact .nilSlice _ _
 |.slice (some ⟨b,o,none⟩) _ _,_,_,h,g=>by obtain⟨b,h1,h2⟩:=aB h;cases h2;cases g with|slice g=>exact .slice (hq _ _ _ h1 g)
 |.slice (some ⟨b,o,some _⟩) _ _,_,_,h,g=>by cases h
 |.map none,_,_,h,g=>by cases h;cases g;exact .nilMap
 |.map (some b),_,_,h,g=>by obtain⟨b,h1,h2⟩:=aB h;cases h2;cases g with|map g=>exact .map (hq _ _ _ h1 g)
 |.chan _,_,_,h,g=>by cases h
 |.nilFunc,_,_,h,g=>by cases h;cases g;exact .nilFunc
 |.nilIface,_,_,h,g=>by cases h;cases g;exact .nilIface
 |.func f ⟨as⟩ ⟨bs⟩,_,_,h,g=>by simp only[nH]at h;obtain⟨a2,h1,h2⟩:=aB h;obtain⟨b2,h3,h4⟩:=aB h2;cases h4;obtain⟨l1,g1,rfl⟩:=qA h1;obtain⟨l2,g2,rfl⟩:=qA h3;cases g with|func _ q1 q2=>exact .func f (cF.unren hq g1 q1) (cF.unren hq g2 q2)
 |.iface t v,_,_,h,g=>by simp only[nH]at h;obtain⟨b,h1,h2⟩:=aB h;cases h2;cases g with|iface _ q=>exact .iface t (dW.unren hq h1 q)
 |.agg ⟨as⟩,_,_,h,g=>by simp only[nH]at h;obtain⟨b,h1,h2⟩:=aB h;cases h2;obtain⟨l1,g1,rfl⟩:=qA h1;cases g with|agg q=>exact .agg (cF.unren hq g1 q)
 |.tuple ⟨as⟩,_,_,h,g=>by simp only[nH]at h;obtain⟨b,h1,h2⟩:=aB h;cases h2;obtain⟨l1,g1,rfl⟩:=qA h1;cases g with|tuple q=>exact .tuple (cF.unren hq g1 q)
theorem cF.unren(hq:∀j k s,p j=some k->ρ2 k=some s->ρ j=some s):∀{v v2 v':List V9},qJ p v=some v2->cF ρ2 v2 v'->cF ρ v v'
 |[],_,_,h,g=>by cases h;cases g;exact .nil
 |v::r,_,_,h,g=>by simp only[qJ]at h;obtain⟨a,h1,h2⟩:=aB h;obtain⟨b,h3,h4⟩:=aB h2;cases h4;cases g with|cons q1 q2=>exact .cons (dW.unren hq h1 q1) (cF.unren hq h3 q2)
end
end
mutual
theorem aTi{p:Nat->Option Nat}:∀{v:V9},inn 0 v=true->nH p v=some v
 |.bool _,_=>rfl
 |.int _ _,_=>rfl
 |.float .f64 _,_=>rfl
 |.float .f32 _,h=>by simp[inn]at h
 |.complex .f64 _ _,_=>rfl
 |.complex .f32 _ _,h=>by simp[inn]at h
 |.string _,_=>rfl
 |.pointer none,_=>rfl
 |.pointer (some _),h=>by simp[inn]at h
 |.slice none _ _,_=>rfl
 |.slice (some _) _ _,h=>by simp[inn]at h
 |.map none,_=>rfl
 |.map (some _),h=>by simp[inn]at h
 |.chan _,h=>by simp[inn]at h
 |.nilFunc,_=>rfl
 |.nilIface,_=>rfl
 |.func f ⟨as⟩ ⟨bs⟩,h=>by simp only[inn,aR7,B9]at h;simp[nH,aWg,bQ h.1,bQ h.2]
 |.iface t v,h=>by simp only[inn]at h;simp[nH,aTi h]
 |.agg ⟨as⟩,h=>by simp only[inn,aR7]at h;simp[nH,aWg,bQ h]
 |.tuple ⟨as⟩,h=>by simp only[inn,aR7]at h;simp[nH,aWg,bQ h]
theorem bQ{p:Nat->Option Nat}:∀{v:List V9},kZ 0 v=true->qJ p v=some v
 |[],_=>rfl
 |v::r,h=>by simp only[kZ,B9]at h;simp[qJ,aTi h.1,bQ h.2]
end
def bI4(p:Nat->Option Nat):List (Int×V9)->Option (List (Int×V9))
 |[]=>some []
 |(n,v)::r=>(nH p v).bind λv=>(bI4 p r).bind λr=>some ((n,v)::r)
theorem pV.ren{ρ ρ2:Map}{p:Nat->Option Nat}{kk:K9}(hq:∀j k s,p j=some k->ρ j=some s->ρ2 k=some s):∀{es:List (Int×V9)}{es':List MapEntry},pV ρ kk es es'->∀{es2},bI4 p es=some es2->pV ρ2 kk es2 es'
 |_,_,.nil,_,h=>by cases h;exact .nil
 |_,_,.cons g gs,_,h=>by simp only[bI4]at h;obtain⟨a,h1,h2⟩:=aB h;obtain⟨b,h3,h4⟩:=aB h2;cases h4;exact .cons (g.ren hq h1) (pV.ren hq gs h3)
theorem pV.unren{ρ ρ2:Map}{p:Nat->Option Nat}{kk:K9}(hq:∀j k s,p j=some k->ρ2 k=some s->ρ j=some s):∀{es es2:List (Int×V9)}{es':List MapEntry},bI4 p es=some es2->pV ρ2 kk es2 es'->pV ρ kk es es'
 |[],_,_,h,g=>by cases h;cases g;exact .nil
 |(n,v)::r,_,_,h,g=>by simp only[bI4]at h;obtain⟨a,h1,h2⟩:=aB h;obtain⟨b,h3,h4⟩:=aB h2;cases h4;cases g with|cons q1 q2=>exact .cons (dW.unren hq h1 q1) (pV.unren hq h3 q2)
def pN(p:Nat->Option Nat):qQ->Option qQ
 |.cells cs sz=>(qJ p cs).bind λcs=>some (.cells cs sz)
 |.map kk es=>(bI4 p es).bind λes=>some (.map kk es)
theorem yW.ren{ρ ρ2:Map}{p:Nat->Option Nat}(hq:∀j k s,p j=some k->ρ j=some s->ρ2 k=some s){o o2:qQ}(h2:pN p o=some o2){s:aC3}{w:W9}(h:yW ρ o s w):yW ρ2 o2 s w:=by
 cases o with
 |cells cs sz=>
  obtain⟨cs2,g1,g2⟩:=aB h2;cases g2;obtain⟨arr,ty,cs',q1,q2,q3,q4,q5⟩:=h;have hl:cs2.length=cs.length:=by have a:=q2.length;have b:=(q2.ren hq g1).length;omega
  exact⟨arr,ty,cs',by rw[hl];exact q1,q2.ren hq g1,q3,by rw[hl];exact q4,q5⟩
 |map kk es=>obtain⟨es2,g1,g2⟩:=aB h2;cases g2;obtain⟨arr,cl,q1,q2⟩:=h;exact⟨arr,cl,q1,q2.ren hq g1⟩
theorem yW.unren{ρ ρ2:Map}{p:Nat->Option Nat}(hq:∀j k s,p j=some k->ρ2 k=some s->ρ j=some s){o o2:qQ}(h2:pN p o=some o2){s:aC3}{w:W9}(h:yW ρ2 o2 s w):yW ρ o s w:=by
 cases o with
 |cells cs sz=>
  obtain⟨cs2,g1,g2⟩:=aB h2;cases g2;obtain⟨arr,ty,cs',q1,q2,q3,q4,q5⟩:=h;have hl:cs2.length=cs.length:=by have a:=q2.length;have b:=(cF.unren hq g1 q2).length;omega
  exact⟨arr,ty,cs',by rw[<-hl];exact q1,cF.unren hq g1 q2,q3,by rw[<-hl];exact q4,q5⟩
 |map kk es=>obtain⟨es2,g1,g2⟩:=aB h2;cases g2;obtain⟨arr,cl,q1,q2⟩:=h;exact⟨arr,cl,q1,pV.unren hq g1 q2⟩
section
variable{ρ:Map}{p:Nat->Option Nat}
mutual
theorem dW.ren_id(hp:∀k s,ρ k=some s->p k=some k):∀{v v':V9},dW ρ v v'->nH p v=some v
 |_,_,.bool b=>rfl
 |_,_,.int k n=>rfl
 |_,_,.float n=>rfl
 |_,_,.nan n g=>rfl
 |_,_,.complex a b=>rfl
 |_,_,.cnan g1 g2=>rfl
 |_,_,.string s=>rfl
 |_,_,.nilPtr=>rfl
 |_,_,.ptr g=>by simp[nH,hp _ _ g]
 |_,_,.nilSlice n c=>rfl
 |_,_,.slice g=>by simp[nH,hp _ _ g]
 |_,_,.nilMap=>rfl
 |_,_,.map g=>by simp[nH,hp _ _ g]
 |_,_,.nilFunc=>rfl
 |_,_,.func f ha hb=>by simp[nH,aWg,cF.ren_id hp ha,cF.ren_id hp hb]
 |_,_,.nilIface=>rfl
 |_,_,.iface t g=>by simp[nH,dW.ren_id hp g]
 |_,_,.agg g=>by simp[nH,aWg,cF.ren_id hp g]
 |_,_,.tuple g=>by simp[nH,aWg,cF.ren_id hp g]
theorem cF.ren_id(hp:∀k s,ρ k=some s->p k=some k):∀{v v':List V9},cF ρ v v'->qJ p v=some v
 |_,_,.nil=>rfl
 |_,_,.cons g gs=>by simp[qJ,dW.ren_id hp g,cF.ren_id hp gs]
end
theorem pV.ren_id{kk:K9}(hp:∀k s,ρ k=some s->p k=some k):∀{es:List (Int×V9)}{es':List MapEntry},pV ρ kk es es'->bI4 p es=some es
 |_,_,.nil=>rfl
 |_,_,.cons g gs=>by simp[bI4,g.ren_id hp,pV.ren_id hp gs]
theorem yW.ren_id(hp:∀k s,ρ k=some s->p k=some k){o:qQ}{s:aC3}{w:W9}(h:yW ρ o s w):pN p o=some o:=by
 cases o with
 |cells cs sz=>obtain⟨arr,ty,cs',q1,q2,q3⟩:=h;simp[pN,q2.ren_id hp]
 |map kk es=>obtain⟨arr,cl,q1,q2⟩:=h;simp[pN,q2.ren_id hp]
end
def sL:List Nat->Nat->Nat->Option Nat
 |[],_,_=>none
 |b::r,i,k=>bif Nat.beq b k then some i else sL r (i+1) k
theorem pF:∀{bs:List Nat}{i j k:Nat},sL bs i j=some k->i<=k/\bs[k-i]?=some j
 |[],i,j,k,h=>by cases h
 |b::r,i,j,k,h=>by
  unfold sL at h;cases hb:Nat.beq b j with
  |true=>rw[hb]at h;cases h;have:=gO hb;subst this;simp
  |false=>rw[hb]at h;obtain⟨h1,h2⟩:=pF (bs:=r) h;refine⟨by omega,?_⟩;rw[show k-i=(k-(i+1))+1 by omega];simpa using h2
def gK(m:Nat)(bs:List Nat)(k:Nat):Option Nat:=bif Nat.blt k m then some k else sL bs m k
def aWe(m:Nat)(bs:List Nat)(ρ0 ρ:Map):Map:=λk=>bif Nat.blt k m then ρ0 k else(bs[k-m]?).bind ρ
theorem oH{m:Nat}{bs:List Nat}{j k:Nat}(h:gK m bs j=some k):(j<m/\k=j)\/(m<=k/\bs[k-m]?=some j):=by
 unfold gK at h;cases hb:Nat.blt j m with
 |true=>rw[hb]at h;cases h;rw[Nat.blt_eq]at hb;exact .inl ⟨hb,rfl⟩
 |false=>rw[hb]at h;exact .inr (pF h)
theorem aW5{a b:Nat}(h:b<=a):Nat.blt a b=false:=by
 cases hb:Nat.blt a b with
 |true=>rw[Nat.blt_eq]at hb;omega
 |false=>rfl
theorem aIg{a b:Nat}(h:a<b):Nat.blt a b=true:=by rw[Nat.blt_eq];exact h
theorem aAd{m k:Nat}{bs:List Nat}{ρ0 ρ:Map}(h:k<m):aWe m bs ρ0 ρ k=ρ0 k:=by unfold aWe;rw[aIg h];rfl
theorem aAc{m k:Nat}{bs:List Nat}{ρ0 ρ:Map}(h:m<=k):aWe m bs ρ0 ρ k=(bs[k-m]?).bind ρ:=by unfold aWe;rw[aW5 h];rfl
def cI(P:Q9)(lo sz:Nat)(H0:AH)(e:Env)(H:AH)(ex:Ex)(e':Env)(H':AH)(W:(Exit->Act->W9->Prop)->Act->W9->Prop):Prop:=
 ∀(ρ0:Map)(w0:W9)(ρ:Map)(w:W9)(a:Act),Inv ρ0 H0 w0->lo<=H0.next->Next lo ρ0 H0 w0 ρ H w->fW ρ e a.tmps->a.tmps.size=sz->
  ∀Q:Exit->Act->W9->Prop,(∀ρ' a' w',Next lo ρ0 H0 w0 ρ' H' w'->fW ρ' e' a'.tmps->a'.tmps.size=sz->a'.defers=a.defers->Q ex.to a' w')->W Q a w
section
variable{P:Q9}{lo sz:Nat}{H0 H H':AH}{e e':Env}{ex:Ex}{W:(Exit->Act->W9->Prop)->Act->W9->Prop}
theorem iE.base(h:iE P lo sz e H ex e' H' W):cI P lo sz H0 e H ex e' H' W:=
 λρ0 w0 ρ w a hi hlo hn he hs Q hQ=>h hn.inv (Nat.le_trans hlo hn.nx) he hs Q λρ' a' w' m1 m2 m3 m4=>hQ ρ' a' w' (hn.trans m1) m2 m3 m4
theorem Next.sup{ρ ρ':Map}{w w':W9}{O:dF}(h:Next lo ρ ⟨H.next,O⟩ w ρ' H' w')(hO:∀x,x∈O->x∈H.objs)(hold:∀k o,k<lo->(k,o)∈H.objs->(k,o)∈O):Next lo ρ H w ρ' H' w' where
 inv:=h.inv
 same:=h.same
 nx:=h.nx
 size:=h.size
 os:=h.os
 tape:=h.tape
 output:=h.output
 keep:=λb hb hn=>h.keep b hb λk o s hk hm he=>hn k o s hk (hO _ hm) he
 own:=λk o s hk hm he=>by
  rcases h.own k o s hk hm he with g|⟨k',o',s',g1,g2,g3,g4⟩;· exact .inl g
  ·exact .inr ⟨k',o',s',g1,hO _ g2,g3,g4⟩
 old:=λk o hk=>(h.old k o hk).trans ⟨λg=>hO _ g,λg=>hold k o hk g⟩
theorem Inv.sub{ρ:Map}{w:W9}{O:dF}(h:Inv ρ H w)(hO:∀x,x∈O->x∈H.objs):Inv ρ ⟨H.next,O⟩ w:=
 ⟨h.dom,λk o hm=>h.wf k o (hO _ hm),λk o o' g1 g2=>h.one k o o' (hO _ g1) (hO _ g2),h.rel.sub hO⟩
theorem Next.rename{ρ0 ρ:Map}{w0 w:W9}(hi0:Inv ρ0 H0 w0)(hlo:lo<=H0.next)(h:Next lo ρ0 H0 w0 ρ H w){bs:List Nat}{O:dF}(hO:∀k o2,(k,o2)∈O->∃j o,(j,o)∈H.objs/\gK H0.next bs j=some k/\pN (gK H0.next bs) o=some o2)(hbs:∀j,j∈bs->H0.next<=j)(hold:∀k o,k<lo->((k,o)∈O↔(k,o)∈H0.objs)):
  Next lo ρ0 H0 w0 (aWe H0.next bs ρ0 ρ) ⟨H0.next+bs.length,O⟩ w/\∀j k s,gK H0.next bs j=some k->ρ j=some s->aWe H0.next bs ρ0 ρ k=some s:=by
 have hq:∀j k s,gK H0.next bs j=some k->ρ j=some s->aWe H0.next bs ρ0 ρ k=some s:=λj k s hp hs=>by
  rcases oH hp with ⟨h1,rfl⟩|⟨h1,h2⟩;· rw[aAd h1,<-h.same k h1];exact hs
  ·rw[aAc h1,h2];exact hs
 have hqe:∀j k,gK H0.next bs j=some k->aWe H0.next bs ρ0 ρ k=ρ j:=λj k hp=>by
  rcases oH hp with ⟨h1,rfl⟩|⟨h1,h2⟩;· rw[aAd h1,<-h.same k h1]
  ·rw[aAc h1,h2];rfl
 have hinj:∀j j' k,gK H0.next bs j=some k->gK H0.next bs j'=some k->j=j':=λj j' k h1 h2=>by
  rcases oH h1 with ⟨a1,rfl⟩|⟨a1,a2⟩<;>rcases oH h2 with ⟨b1,b2⟩|⟨b1,b2⟩
  ·exact b2
  ·omega
  ·omega
  ·rw[a2]at b2;exact Option.some.inj b2
 have hlt:∀j k,gK H0.next bs j=some k->k<H0.next+bs.length:=λj k hp=>by
  rcases oH hp with ⟨h1,rfl⟩|⟨h1,h2⟩;· omega
  ·have:=(List.getElem?_eq_some_iff.1 h2).1;omega
 refine⟨?_,hq⟩;exact
  {inv:=⟨λk hk=>by
     simp only at hk;rw[aAc (by omega),List.getElem?_eq_none (by omega)];rfl,
    λk o hm=>by obtain⟨j,o1,g1,g2,g3⟩:=hO k o hm;exact hlt j k g2,
    λk o o' h1 h2=>by
     obtain⟨j,o1,g1,g2,g3⟩:=hO k o h1;obtain⟨j',o1',g1',g2',g3'⟩:=hO k o' h2;have:=hinj j j' k g2 g2';subst this;have:=h.inv.one j _ _ g1 g1';subst this;rw[g3]at g3';exact Option.some.inj g3',
    ⟨λk o hm=>by
     obtain⟨j,o1,g1,g2,g3⟩:=hO k o hm;obtain⟨s,e1,e2⟩:=h.inv.rel.obj j o1 g1;exact⟨s,hq j k s g2 e1,e2.ren hq g3⟩,
    λk o k' o' s s' h1 h2 h3 h4 h5=>by
     obtain⟨j,o1,g1,g2,g3⟩:=hO k o h1;obtain⟨j',o1',g1',g2',g3'⟩:=hO k' o' h2;rw[hqe j k g2]at h3;rw[hqe j' k' g2']at h4;have:=h.inv.rel.inj j o1 j' o1' s s' g1 g1' h3 h4 h5;subst this;rw[g2]at g2';exact Option.some.inj g2'⟩⟩
   same:=λk hk=>aAd hk
   nx:=Nat.le_add_right _ _
   size:=h.size
   os:=h.os
   tape:=h.tape
   output:=h.output
   keep:=h.keep
   own:=λk o s hk hm he=>by
    obtain⟨j,o1,g1,g2,g3⟩:=hO k o hm;rw[hqe j k g2]at he;refine h.own j o1 s ?_ g1 he;rcases oH g2 with ⟨h1,rfl⟩|⟨h1,h2⟩;· exact hk
    ·exact Nat.le_trans hlo (hbs j (List.mem_of_getElem? h2))
   old:=hold }
def aGt:List Nat->Env->Env
 |[],_=>[]
 |t::r,e=>match rZ t e with
  |some v=>(t,v)::aGt r e
  |none=>aGt r e
def vL:List Nat->dF->dF
 |[],_=>[]
 |b::r,O=>match aCg b O with
  |some o=>(b,o)::vL r O
  |none=>vL r O
def aU{R:Type}(ts bs:List Nat)(k:Ex->Env->dF->Option R):Ex->Env->AH->Option R:=λex e H=>k ex (aGt ts e) (vL bs H.objs)
theorem oR{t:Nat}{v:V9}:∀{ts:List Nat}{e:Env},rZ t (aGt ts e)=some v->rZ t e=some v
 |[],e,h=>by cases h
 |u::r,e,h=>by
  unfold aGt at h;split at h
  ·rename_i v' hv;unfold rZ at h;cases hb:Nat.beq u t with
   |true=>rw[hb]at h;cases h;have:=gO hb;subst this;exact hv
   |false=>rw[hb]at h;exact oR h
  ·exact oR h
theorem sQ{k:Nat}{o:qQ}:∀{bs:List Nat}{O:dF},(k,o)∈vL bs O->(k,o)∈O
 |[],O,h=>by simp[vL]at h
 |b::r,O,h=>by
  unfold vL at h;split at h
  ·rename_i o' ho;rcases List.mem_cons.1 h with e|h
   ·cases e;exact kS ho
   ·exact sQ h
  ·exact sQ h
def bFs(p:Nat->Option Nat):Env->Option Env
 |[]=>some []
 |(t,v)::r=>(nH p v).bind λv=>(bFs p r).bind λr=>some ((t,v)::r)
def fD(p:Nat->Option Nat):dF->Option dF
 |[]=>some []
 |(k,o)::r=>(p k).bind λk=>(pN p o).bind λo=>(fD p r).bind λr=>some ((k,o)::r)
theorem aJ8{p:Nat->Option Nat}{t:Nat}{v2:V9}:∀{e e2:Env},bFs p e=some e2->rZ t e2=some v2->∃v,rZ t e=some v/\nH p v=some v2
 |[],e2,h,g=>by cases h;cases g
 |(u,v)::r,e2,h,g=>by
  simp only[bFs]at h;obtain⟨v',h1,h2⟩:=aB h;obtain⟨r',h3,h4⟩:=aB h2;cases h4;unfold rZ at g⊢;cases hb:Nat.beq u t with
  |true=>rw[hb]at g;cases g;exact⟨v,rfl,h1⟩
  |false=>rw[hb]at g;exact aJ8 h3 g
theorem aFi{p:Nat->Option Nat}{k:Nat}{o2:qQ}:∀{O O2:dF},fD p O=some O2->(k,o2)∈O2->∃j o,(j,o)∈O/\p j=some k/\pN p o=some o2
 |[],O2,h,g=>by cases h;simp at g
 |(u,v)::r,O2,h,g=>by
  simp only[fD]at h;obtain⟨k',h0,h⟩:=aB h;obtain⟨v',h1,h2⟩:=aB h;obtain⟨r',h3,h4⟩:=aB h2;cases h4;rcases List.mem_cons.1 g with e|g;· cases e;exact⟨u,v,List.mem_cons_self,h0,h1⟩
  ·obtain⟨j,o,g1,g2⟩:=aFi h3 g;exact⟨j,o,List.mem_cons_of_mem _ g1,g2⟩
def geB(lo:Nat):dF->Bool
 |[]=>true
 |(k,_)::r=>Nat.ble lo k&&geB lo r
theorem aOr{lo k:Nat}{o:qQ}:∀{O:dF},geB lo O=true->(k,o)∈O->lo<=k
 |[],_,h=>by simp at h
 |(j,u)::r,g,h=>by
  simp only[geB,B9,Nat.ble_eq]at g;rcases List.mem_cons.1 h with e|h;· cases e;exact g.1
  ·exact aOr g.2 h
theorem aMo{lo:Nat}{A B D:dF}(hA:geB lo A=true)(hD:geB lo D=true):∀k o,k<lo->((k,o)∈A++B↔(k,o)∈D++B):=λk o hk=>by
 simp only[List.mem_append];constructor
 ·rintro (g|g)
  ·have:=aOr hA g;omega
  ·exact .inr g
 ·rintro (g|g)
  ·have:=aOr hD g;omega
  ·exact .inr g
def ltB(lo:Nat):dF->Bool
 |[]=>true
 |(k,_)::r=>Nat.blt k lo&&ltB lo r
theorem aO3{lo k:Nat}{o:qQ}:∀{O:dF},ltB lo O=true->(k,o)∈O->k<lo
 |[],_,h=>by simp at h
 |(j,u)::r,g,h=>by
  simp only[ltB,B9,Nat.blt_eq]at g;rcases List.mem_cons.1 h with e|h;· cases e;exact g.1
  ·exact aO3 g.2 h
theorem cI.told{e1 e2:Env}{H1:AH}{ts bo bs:List Nat}{A B D:dF}(h:cI P lo sz H0 e H ex e1 H1 W)(he:bFs (gK H0.next bs) (aGt ts e1)=some e2)(hO:fD (gK H0.next bs) (vL bo H1.objs)=some A)(hbs:bs.all (Nat.ble H0.next)=true)(hD:H0.objs=D++B)(hB:ltB lo B=true)(hA:geB lo A=true)(hd:geB lo D=true):cI P lo sz H0 e H ex e2 ⟨H0.next+bs.length,A++B⟩ W:=
 λρ0 w0 ρ w a hi hlo hn hev hs Q hQ=>h _ _ _ _ _ hi hlo hn hev hs Q λρ' a' w' m1 m2 m3 m4=>by
  have hpid:∀k s,ρ0 k=some s->gK H0.next bs k=some k:=λk s hk=>by unfold gK;rw[aIg (hi.lt hk)];rfl
  obtain⟨g1,g2⟩:=Next.rename hi hlo m1 (bs:=bs) (O:=A++B) (λk o2 hm=>by
   rcases List.mem_append.1 hm with hm|hm;· obtain⟨j,o,q1,q2⟩:=aFi hO hm;exact⟨j,o,sQ q1,q2⟩
   ·have hk:=aO3 hB hm;have hm0:(k,o2)∈H0.objs:=by rw[hD];exact List.mem_append_right _ hm
    obtain⟨s,e1,e2⟩:=hi.rel.obj k o2 hm0;exact⟨k,o2,(m1.old k o2 hk).2 hm0,hpid k s e1,e2.ren_id hpid⟩) (λj hj=>by
   have:=List.all_eq_true.1 hbs j hj;rwa[Nat.ble_eq]at this) (λk o hk=>by rw[hD];exact aMo hA hd k o hk)
  refine hQ _ a' w' g1 (λt v hv=>?_) m3 m4;obtain⟨v1,q1,q2⟩:=aJ8 he hv;obtain⟨v',r1,r2⟩:=m2 t v1 (oR q1);exact⟨v',r1,r2.ren g2 q2⟩
end
def dH(P:Q9)(lo sz:Nat)(H0:AH)(a:H9)(e:Env)(H:AH)(ex:Ex)(e':Env)(H':AH):Prop:=
 ∃n,cI P lo sz H0 e H ex e' H' (λQ act w=>H9.rounds P a Q n act w)
theorem aDx{P:Q9}{lo sz:Nat}{a:H9}{H0:AH}{e e1 e':Env}{H H1 H':AH}{ex:Ex}(h1:cI P lo sz H0 e H .normal e1 H1 (λQ act w=>a.wp P Q act w))(h2:dH P lo sz H0 a e1 H1 ex e' H'):dH P lo sz H0 a e H ex e' H':=by
 obtain⟨n,h2⟩:=h2;refine⟨n+1,λρ0 w0 ρ w act hi hlo hn he hs Q hQ=>?_⟩;show H9.wp P a (Exit.then (H9.rounds P a Q n) Q) act w;refine h1 _ _ _ _ _ hi hlo hn he hs _ λρ1 a1 w1 m1 m2 m3 m4=>?_
 exact h2 _ _ _ _ _ hi hlo m1 m2 m3 Q λρ' a' w' q1 q2 q3 q4=>hQ ρ' a' w' q1 q2 q3 (q4.trans m4)
theorem gY{P:Q9}{lo sz:Nat}{a:H9}{H0:AH}{e e':Env}{H H':AH}{ex:Ex}(hne:ex≠.normal)(h1:cI P lo sz H0 e H ex e' H' (λQ act w=>a.wp P Q act w)):dH P lo sz H0 a e H ex e' H':=by refine⟨1,λρ0 w0 ρ w act hi hlo hn he hs Q hQ=>?_⟩;show H9.wp P a (Exit.then (H9.rounds P a Q 0) Q) act w;refine h1 _ _ _ _ _ hi hlo hn he hs _ λρ1 a1 w1 m1 m2 m3 m4=>aKv (P:=P) hne (hQ ρ1 a1 w1 m1 m2 m3 m4)
theorem gG{P:Q9}{lo sz:Nat}{a:H9}{e e':Env}{H H':AH}{ex:Ex}(h:dH P lo sz H a e H ex e' H'):iE P lo sz e H ex e' H' (λQ act w=>H9.wp P (.loop a) Q act w):=by obtain⟨n,h⟩:=h;exact λ{ρ w act} hi hlo he hs Q hQ=>wp_loop_rounds n (h _ _ _ _ _ hi hlo (Next.refl hi) he hs Q hQ)
theorem fQ{P:Q9}{lo sz:Nat}{a:H9}{H0:AH}{E:Nat->Env}{H:Nat->AH}{ex:Ex}{e':Env}{H':AH}:∀(j k:Nat),
  (∀i,k<=i->i<k+j->cI P lo sz H0 (E i) (H i) .normal (E (i+1)) (H (i+1)) (λQ act w=>a.wp P Q act w))->dH P lo sz H0 a (E (k+j)) (H (k+j)) ex e' H'->
  dH P lo sz H0 a (E k) (H k) ex e' H'
 |0,k,_,he=>he
 |j+1,k,hs,he=>aDx (hs k (Nat.le_refl _) (by omega)) (fQ j (k+1) (λi h1 h2=>hs i (by omega) (by omega)) (by rw[show k+1+j=k+(j+1) by omega];exact he))
theorem bK{C:Cx}(hC:C.Ok)(hmix:C.P.follows .mixedOrders=true){n lo sz:Nat}{c:H9}(hl:fP c=[]){H0:AH}{e:Env}{H:AH}{ts bo bs:List Nat}{ex:Ex}{e1 e2:Env}{O1 A B D:dF}(h:bE C n noL lo sz c e H (aU ts bo λex e O=>some (ex,e,O))=some (ex,e1,O1))(he:bFs (gK H0.next bs) e1=some e2)(hO:fD (gK H0.next bs) O1=some A)(hbs:bs.all (Nat.ble H0.next)=true)(hD:H0.objs=D++B)(hB:ltB lo B=true)(hA:geB lo A=true)(hd:geB lo D=true):cI C.P lo sz H0 e H ex e2 ⟨H0.next+bs.length,A++B⟩ (λQ a w=>c.wp C.P Q a w):=by obtain⟨ex1,e',H',g1,g2⟩:=pE hC hmix c (L:=noL) (n:=n) (by rw[hl];intro a ha;simp at ha) _ _ _ _ h;unfold aU at g1;cases g1;exact @cI.told C.P lo sz H0 H e ex (λQ a w=>c.wp C.P Q a w) e' e2 H' ts bo bs A B D (iE.base @g2) he hO hbs hD hB hA hd
theorem kG{C:Cx}(hC:C.Ok)(hmix:C.P.follows .mixedOrders=true){n lo sz:Nat}{c:H9}{L:qR}(hl:∀a∈fP c,LOk C.P L a){H0:AH}{e:Env}{H:AH}{ts bo bs:List Nat}{ex:Ex}{e1 e2:Env}{O1 A B D:dF}(h:bE C n L lo sz c e H (aU ts bo λex e O=>some (ex,e,O))=some (ex,e1,O1))(he:bFs (gK H0.next bs) e1=some e2)(hO:fD (gK H0.next bs) O1=some A)(hbs:bs.all (Nat.ble H0.next)=true)(hD:H0.objs=D++B)(hB:ltB lo B=true)(hA:geB lo A=true)(hd:geB lo D=true):cI C.P lo sz H0 e H ex e2 ⟨H0.next+bs.length,A++B⟩ (λQ a w=>c.wp C.P Q a w):=by obtain⟨ex1,e',H',g1,g2⟩:=pE hC hmix c (L:=L) (n:=n) hl _ _ _ _ h;unfold aU at g1;cases g1;exact @cI.told C.P lo sz H0 H e ex (λQ a w=>c.wp C.P Q a w) e' e2 H' ts bo bs A B D (iE.base @g2) he hO hbs hD hB hA hd
structure Within(q:Nat->Option Nat)(Hc H:AH):Prop where
 obj:∀j o,(j,o)∈Hc.objs->∃k o2,q j=some k/\pN q o=some o2/\(k,o2)∈H.objs
 lt:∀j o,(j,o)∈Hc.objs->j<Hc.next
 one:∀j o o',(j,o)∈Hc.objs->(j,o')∈Hc.objs->o=o'
 inj:∀j j' k,q j=some k->q j'=some k->j=j'
 dom:∀j k,q j=some k->j<Hc.next
def aPv(q:Nat->Option Nat)(ρ:Map):Map:=λj=>(q j).bind ρ
theorem aTg{q:Nat->Option Nat}{Hc H:AH}{ρ:Map}{w:W9}(hq:Within q Hc H)(hi:Inv ρ H w):Inv (aPv q ρ) Hc w:=by
 have hb:∀j k s,q j=some k->ρ k=some s->aPv q ρ j=some s:=λj k s h1 h2=>by unfold aPv;rw[h1];exact h2
 refine⟨λk hk=>?_,hq.lt,hq.one,⟨λj o hm=>?_,λj o j' o' s s' h1 h2 h3 h4 h5=>?_⟩⟩
 ·unfold aPv;cases h:q k with
  |none=>rfl
  |some u=>have:=hq.dom k u h;omega
 ·obtain⟨k,o2,h1,h2,h3⟩:=hq.obj j o hm;obtain⟨s,e1,e2⟩:=hi.rel.obj k o2 h3;exact⟨s,hb j k s h1 e1,e2.unren hb h2⟩
 ·obtain⟨k,o2,g1,g2,g3⟩:=hq.obj j o h1;obtain⟨k',o2',g1',g2',g3'⟩:=hq.obj j' o' h2;unfold aPv at h3 h4;rw[g1]at h3;rw[g1']at h4;have:=hi.rel.inj k o2 k' o2' s s' g3 g3' h3 h4 h5;subst this;exact hq.inj _ _ _ g1 g1'
theorem aMv{q:Nat->Option Nat}{ρ:Map}{argsc args args':List V9}(ha:qJ q argsc=some args)(h:cF ρ args args'):cF (aPv q ρ) argsc args':=
 cF.unren (λj k s h1 h2=>by unfold aPv;rw[h1];exact h2) ha h
theorem tS{P:Q9}{f:FuncId}{argsc args:List V9}{q:Nat->Option Nat}{Hc H:AH}{v:V9}(hq:Within q Hc H)(ha:qJ q argsc=some args)(h:∀ρ w args',Inv ρ Hc w->cF ρ argsc args'->Calls P f ⟨args'⟩ w λe w'=>e=.returned v/\RowKit.Below w.heap.size w w'):
  ∀ρ w args',Inv ρ H w->cF ρ args args'->Calls P f ⟨args'⟩ w λe w'=>e=.returned v/\RowKit.Below w.heap.size w w':=
 λρ w args' hi hr=>h _ w args' (aTg hq hi) (aMv ha hr)
def aFc(q:Nat->Option Nat)(m n:Nat)(bs:List Nat)(j:Nat):Option Nat:=bif Nat.blt j m then q j else sL bs n j
theorem aA8{P:Q9}{f:FuncId}{argsc args:List V9}{q:Nat->Option Nat}{Hc Hc' H:AH}{v v2:V9}{bs:List Nat}{A:dF}(hq:Within q Hc H)(ha:qJ q argsc=some args)(hv:nH (aFc q Hc.next H.next bs) v=some v2)(hA:∀k o2,(k,o2)∈A->∃j o,(j,o)∈Hc'.objs/\sL bs H.next j=some k/\pN (aFc q Hc.next H.next bs) o=some o2)(hbs:∀j,j∈bs->Hc.next<=j)(h:∀ρ w args',Inv ρ Hc w->cF ρ argsc args'->Calls P f ⟨args'⟩ w λe w'=>∃ρ' v',e=.returned v'/\dW ρ' v v'/\Next Hc.next ρ Hc w ρ' Hc' w'):
  ∀(lo:Nat)(ρ:Map)(w:W9)(args':List V9),Inv ρ H w->lo<=H.next->cF ρ args args'->
   Calls P f ⟨args'⟩ w λe w'=>∃ρ' v',e=.returned v'/\dW ρ' v2 v'/\Next lo ρ H w ρ' ⟨H.next+bs.length,A++H.objs⟩ w':=by
 intro lo ρ w args' hi hlo hr;refine(h _ w args' (aTg hq hi) (aMv ha hr)).mono ?_
 rintro e w' ⟨ρ',v',rfl,g,hn⟩
 have same:∀j,j<Hc.next->ρ' j=(q j).bind ρ:=hn.same;have keep:∀b,b<w.heap.size->w'.heap[b]?=w.heap[b]?:=λb hb=>hn.keep b hb λk o s hk hm=>absurd (hq.lt k o hm) (by omega)
 have own:∀k o s,Hc.next<=k->(k,o)∈Hc'.objs->ρ' k=some s->w.heap.size<=s.b:=λk o s hk hm he=>by
  rcases hn.own k o s hk hm he with g|⟨k',o',s',g1,g2,_⟩;· exact g
  ·exact absurd (hq.lt k' o' g2) (by omega)
 let ρ2:Map:=aWe H.next bs ρ ρ'
 have old:∀k s,ρ k=some s->ρ2 k=some s:=λk s hk=>by show aWe H.next bs ρ ρ' k=some s;rw[aAd (hi.lt hk)];exact hk
 have new:∀j k,sL bs H.next j=some k->ρ2 k=ρ' j:=λj k hk=>by obtain⟨h1,h2⟩:=pF hk;show aWe H.next bs ρ ρ' k=ρ' j;rw[aAc h1,h2];rfl
 have hb:∀j k s,aFc q Hc.next H.next bs j=some k->ρ' j=some s->ρ2 k=some s:=λj k s h1 h2=>by
  unfold aFc at h1;cases hl:Nat.blt j Hc.next with
  |true=>rw[hl,T7]at h1;rw[Nat.blt_eq]at hl;rw[same j hl,h1]at h2;exact old k s h2
  |false=>rw[hl,F7]at h1;rw[new j k h1];exact h2
 have newj:∀j k,sL bs H.next j=some k->H.next<=k/\k<H.next+bs.length/\Hc.next<=j:=λj k hk=>by obtain⟨h1,h2⟩:=pF hk;have:=(List.getElem?_eq_some_iff.1 h2).1;exact⟨h1,by omega,hbs j (List.mem_of_getElem? h2)⟩
 have pinj:∀j j' k,sL bs H.next j=some k->sL bs H.next j'=some k->j=j':=λj j' k h1 h2=>by have a:=(pF h1).2;have b:=(pF h2).2;rw[a]at b;exact Option.some.inj b
 refine⟨ρ2,v',rfl,g.ren hb hv,?_⟩;exact
  {inv:=⟨λk hk=>by
     simp only at hk;show aWe H.next bs ρ ρ' k=none;rw[aAc (by omega),List.getElem?_eq_none (by omega)];rfl,
    λk o hm=>by
     rcases List.mem_append.1 hm with hm|hm;· obtain⟨j,o1,g1,g2,g3⟩:=hA k o hm;exact(newj j k g2).2.1
     ·have:=hi.wf k o hm;show k<H.next+bs.length;omega,
    λk o o' h1 h2=>by
     rcases List.mem_append.1 h1 with h1|h1<;>rcases List.mem_append.1 h2 with h2|h2
     ·obtain⟨j,o1,g1,g2,g3⟩:=hA k o h1;obtain⟨j',o1',g1',g2',g3'⟩:=hA k o' h2;have:=pinj j j' k g2 g2';subst this;have:=hn.inv.one j _ _ g1 g1';subst this;rw[g3]at g3';exact Option.some.inj g3'
     ·obtain⟨j,o1,g1,g2,g3⟩:=hA k o h1;have:=(newj j k g2).1;have:=hi.wf k o' h2;omega
     ·obtain⟨j,o1,g1,g2,g3⟩:=hA k o' h2;have:=(newj j k g2).1;have:=hi.wf k o h1;omega
     ·exact hi.one k o o' h1 h2,
    ⟨λk o hm=>by
     rcases List.mem_append.1 hm with hm|hm;· obtain⟨j,o1,g1,g2,g3⟩:=hA k o hm;obtain⟨s,e1,e2⟩:=hn.inv.rel.obj j o1 g1;exact⟨s,by rw[new j k g2];exact e1,e2.ren hb g3⟩
     ·obtain⟨s,e1,e2⟩:=hi.rel.obj k o hm;exact⟨s,old k s e1,(e2.mono old).heap (keep s.b e2.lt)⟩,
    λk o k' o' s s' h1 h2 h3 h4 h5=>by
     rcases List.mem_append.1 h1 with h1|h1<;>rcases List.mem_append.1 h2 with h2|h2
     ·obtain⟨j,o1,g1,g2,g3⟩:=hA k o h1;obtain⟨j',o1',g1',g2',g3'⟩:=hA k' o' h2;rw[new j k g2]at h3;rw[new j' k' g2']at h4;have:=hn.inv.rel.inj j o1 j' o1' s s' g1 g1' h3 h4 h5;subst this;rw[g2]at g2';exact Option.some.inj g2'
     ·obtain⟨j,o1,g1,g2,g3⟩:=hA k o h1;rw[new j k g2]at h3;have a:=own j o1 s (newj j k g2).2.2 g1 h3;obtain⟨s2,e1,e2⟩:=hi.rel.obj k' o' h2;rw[old k' s2 e1]at h4;cases h4;have:=e2.lt;omega
     ·obtain⟨j,o1,g1,g2,g3⟩:=hA k' o' h2;rw[new j k' g2]at h4;have a:=own j o1 s' (newj j k' g2).2.2 g1 h4;obtain⟨s2,e1,e2⟩:=hi.rel.obj k o h1;rw[old k s2 e1]at h3;cases h3;have:=e2.lt;omega
     ·obtain⟨s2,e1,e2⟩:=hi.rel.obj k o h1;obtain⟨s3,e3,e4⟩:=hi.rel.obj k' o' h2;rw[old k s2 e1]at h3;rw[old k' s3 e3]at h4;cases h3;cases h4;exact hi.rel.inj k o k' o' s s' h1 h2 e1 e3 h5⟩⟩
   same:=λk hk=>aAd hk
   nx:=Nat.le_add_right _ _
   size:=hn.size
   os:=hn.os
   tape:=hn.tape
   output:=hn.output
   keep:=λb hb' _=>keep b hb'
   own:=λk o s hk hm he=>by
    rcases List.mem_append.1 hm with hm|hm;· obtain⟨j,o1,g1,g2,g3⟩:=hA k o hm;rw[new j k g2]at he;exact .inl (own j o1 s (newj j k g2).2.2 g1 he)
    ·obtain⟨s2,e1,e2⟩:=hi.rel.obj k o hm;rw[old k s2 e1]at he;cases he;exact .inr ⟨k,o,_,hk,hm,e1,rfl⟩
   old:=λk o hk=>by
    simp only[List.mem_append];constructor
    ·rintro (hm|hm)
     ·obtain⟨j,o1,g1,g2,g3⟩:=hA k o hm;have:=(newj j k g2).1;omega
     ·exact hm
    ·exact λhm=>.inr hm }
theorem aUm{P:Q9}{f:FuncId}{fn:Func}{c:H9}{args:List V9}{H H':AH}{e':Env}{ex:Ex}{vs:List V9}(hf:P.funcs[f]?=some fn)(hb:fn.body=some c)(hl:args.length<=fn.ntmps)(h:iE P H.next fn.ntmps (gX 0 args) H ex e' H' (λQ a w=>c.wp P Q a w))(hex:ex=.normal\/ex=.ret)(hr:aCn P e' H' fn.results.toList=some vs):
  ∀ρ w args',Inv ρ H w->cF ρ args args'->Calls P f ⟨args'⟩ w λe w'=>∃ρ' v',e=.returned v'/\dW ρ' (rH vs) v'/\Next H.next ρ H w ρ' H' w':=by
 intro ρ w args' hi ha;have hlen:=ha.length;refine calls_of_wp hf hb ?_;refine h hi (Nat.le_refl _) (uV ha _) (by simp;omega) _ λρ' a' w' n1 n2 n3 n4=>?_
 obtain⟨v',r1,r2⟩:=oB hr n1.inv n2;have post:a'.defers=[]/\∃v,(results fn a'.tmps).run P w'=.ok v w'/\∃ρ' v',Ending.returned v=.returned v'/\dW ρ' (rH vs) v'/\Next H.next ρ H w ρ' H' w':=
  ⟨n4,v',r1,ρ',v',rfl,r2,n1⟩
 rcases hex with rfl|rfl;· exact post
 ·exact post
open Ieee
def eqF(a b:Nat):Bool:=aBq a b==some .eq
def neF(a b:Nat):Bool:=aBq a b != some .eq
def leF(a b:Nat):Bool:=aBq a b==some .lt||aBq a b==some .eq
def geF(a b:Nat):Bool:=aBq a b==some .gt||aBq a b==some .eq
def ltF(a b:Nat):Bool:=aBq a b==some .lt
def gtF(a b:Nat):Bool:=aBq a b==some .gt
def jJ:gU:=λR a b c d k=>aM (fbF .add a c) λx=>aM (fbF .add b d) λy=>k x y
def gJ:gU:=λR a b c d k=>aM (fbF .sub a c) λx=>aM (fbF .sub b d) λy=>k x y
def dV:gU:=λR a b c d k=>
  aM (fbF .mul a c) λx1=>aM (fbF .mul b d) λx2=>aM (fbF .sub x1 x2) λre=>
  aM (fbF .mul a d) λx3=>aM (fbF .mul b c) λx4=>aM (fbF .add x3 x4) λim=>k re im
def sU:KCC:=λR a b k=>bH (Op.negFloat .f64 a) λx=>bH (Op.negFloat .f64 b) λy=>k x y
def bJ:KCB:=λR a b k=>aW (eqF a 0) λt=>match t with
 |true=>aW (eqF b 0) λt=>k t
 |false=>k false
def wV(a:Nat):Nat:=(K9.u64.wrap ((BitVec.ofInt 64 a &&& ~~~(BitVec.ofInt 64 9223372036854775808)).toNat:Nat)).toNat
def kO:KFF:=λR a k=>k (wV a)
def aKu(ab:KFF):aA1:=λR a m k=>ab R a λx=>aW (leF x m) λt=>k t
def yD(wi:aA1):aNo:=λR a b m k=>wi R a m λt=>aW t λt=>match t with
 |true=>wi R b m λt=>aW t λt=>k t
 |false=>k false
def aTb(wi:aNo):KCB:=λR a b k=>wi R a b 4787326403894837248 λt=>aW t λt=>k t
def bQd(x y:Int):Int:=K9.u64.wrap ((BitVec.ofInt 64 x &&&BitVec.ofInt 64 y).toNat:Nat)
def bHc(x y:Int):Int:=K9.i64.wrap ((BitVec.ofInt 64 x &&&BitVec.ofInt 64 y).toNat:Nat)
def rT(x y:Int):Int:=K9.u64.wrap ((BitVec.ofInt 64 x &&& ~~~(BitVec.ofInt 64 y)).toNat:Nat)
def orU(x y:Int):Int:=K9.u64.wrap ((BitVec.ofInt 64 x |||BitVec.ofInt 64 y).toNat:Nat)
def bQr(x n:Int):Int:=x.fdiv (2^min n.toNat K9.u64.bits)
def cA3(x n:Int):Int:=K9.u64.wrap (x*2^min n.toNat K9.u64.bits)
abbrev aH6:=∀R:Type,Nat->(Nat->Int->Option R)->Option R
abbrev aKy:=∀R:Type,Nat->Int->(Nat->Option R)->Option R
abbrev KCF:=∀R:Type,Nat->Nat->(Nat->Option R)->Option R
abbrev bQa:=∀R:Type,Nat->Nat->(Nat->Nat->Int->Option R)->Option R
abbrev cEv:=∀R:Type,Nat->Nat->Nat->Nat->Nat->(Bool->Option R)->Option R
def bQp(g:KFB):Sum:=λR args k=>match args with
 |[.float .f64 a,.int .i64 s]=>bif s==0 then g R a λt=>aW t λt=>k (.bool t) else none
 |_=>none
def aGr(g:aH6):Sum:=λR args k=>match args with
 |[.float .f64 a]=>g R a λx e=>k (.tuple ⟨[.float .f64 x,.int .i64 e]⟩)
 |_=>none
def aP4(g:aKy):Sum:=λR args k=>match args with
 |[.float .f64 a,.int .i64 e]=>g R a e λx=>k (.float .f64 x)
 |_=>none
def sCF(g:KCF):Sum:=λR args k=>match args with
 |[.complex .f64 a b]=>g R a b λx=>k (.float .f64 x)
 |_=>none
def bVc(g:bQa):Sum:=λR args k=>match args with
 |[.complex .f64 a b]=>g R a b λx y e=>k (.tuple ⟨[.complex .f64 x y,.int .i64 e]⟩)
 |_=>none
def aAs:Sum:=λR args k=>none
def aY6(ab:KFF):KFB:=λR a k=>ab R a λx=>aW (gtF x 9218868437227405311) λt=>k t
def xY:KFB:=λR a k=>aW (neF a a) λt=>k t
def bUa(ab:KFF):aH6:=λR a k=>ab R a λx=>aW (ltF x 4503599627370496) λt=>match t with
 |true=>aM (fbF .mul a 4841369599423283200) λy=>k y (-52)
 |false=>k a 0
def aXu{R:Type}(fi:Fi)(y:Nat)(k:KIO R):Option R:=fi R (K9.i64.wrap (bQd (bQr y 52) 2047)) k
def aEd{R:Type}(fi:Fi)(y:Nat)(e:Int)(k:Nat->Int->Option R):Option R:=
 aXu fi y λn1=>fi R (K9.i64.wrap (n1-1023)) λn2=>fi R (K9.i64.wrap (n2+1)) λn3=>fi R (K9.i64.wrap (e+n3)) λn4=>
  k (orU (rT y 9218868437227405312) 4602678819172646912).toNat n4
def aRv(fi:Fi)(inf nan:KFB)(nm:aH6):aH6:=λR a k=>aW (eqF a 0) λt=>match t with
 |true=>k a 0
 |false=>inf R a λt=>aW t λt=>match t with
  |true=>k a 0
  |false=>nan R a λt=>aW t λt=>match t with
   |true=>k a 0
   |false=>nm R a λy e=>aEd fi y e k
def xF{R:Type}(fi:Fi)(y:Nat)(ex:Int)(m:Nat)(k:KNO R):Option R:=
 fi R (K9.i64.wrap (ex+1023)) λn1=>fi R (K9.u64.wrap n1) λn2=>
  aM (fbF .mul m (orU (rT y 9218868437227405312) (cA3 n2 52)).toNat) k
abbrev vS:=∀R:Type,Nat->Nat->(Nat->Option R)->Option R
def aGc(g:vS):Sum:=λR args k=>match args with
 |[.float .f64 a,.float .f64 b]=>g R a b λx=>k (.float .f64 x)
 |_=>none
def aIp:vS:=λR a b k=>k (orU (rT a 9223372036854775808) (bQd b 9223372036854775808)).toNat
def zT{R:Type}(fi:Fi)(cp:vS)(y:Nat)(e n:Int)(k:KNO R):Option R:=
 fi R (K9.i64.wrap (n+e)) λn1=>fi R (K9.i64.wrap (bQr y 52)) λn2=>fi R (K9.i64.wrap (bHc n2 2047-1023)) λn3=>fi R (K9.i64.wrap (n1+n3)) λex=>
  aW (decide (ex < -1075)) λt=>match t with
  |true=>cp R 0 y k
  |false=>aW (decide (ex>1023)) λt=>match t with
   |true=>aW (ltF y 0) λ_=>none
   |false=>aW (decide (ex < -1022)) λt=>match t with
    |true=>fi R (K9.i64.wrap (ex+53)) λex=>xF fi y ex 4368491638549381120 k
    |false=>xF fi y ex 4607182418800017408 k
def aSi(fi:Fi)(cp:vS)(inf nan:KFB)(nm:aH6):aKy:=λR a n k=>aW (eqF a 0) λt=>match t with
 |true=>k a
 |false=>inf R a λt=>aW t λt=>match t with
  |true=>k a
  |false=>nan R a λt=>aW t λt=>match t with
   |true=>k a
   |false=>nm R a λy e=>zT fi cp y e n k
def aQ8(n:Int):Int:=if(if n<5000 then n else 5000) > -5000 then(if n<5000 then n else 5000) else -5000
def bI9(ld:aKy):aKy:=λR a n k=>ld R a (aQ8 n) k
def aL8(ab:KFF):KCF:=λR a b k=>ab R a λx=>ab R b λy=>aW (gtF y x) λt=>match t with
 |true=>k y
 |false=>k x
def aKj(gr:KCF)(pa:aH6)(sc:aKy):bQa:=λR a b k=>gr R a b λg=>pa R g λ_ e=>
 sc R a (K9.i64.wrap (0-e)) λx=>sc R b (K9.i64.wrap (0-e)) λy=>k x y e
def wR:KCF:=λR a b k=>aM (fbF .mul a a) λx=>aM (fbF .mul b b) λy=>aM (fbF .add x y) k
def aJf(inf nan:KFB)(gr:KCF)(sd:bQa)(sq:KCF)(rt:KFF)(sc:aKy):KCF:=λR a b k=>
 inf R a λt=>aW t λt=>match t with
 |true=>none
 |false=>inf R b λt=>aW t λt=>match t with
  |true=>none
  |false=>nan R a λt=>aW t λt=>match t with
   |true=>none
   |false=>nan R b λt=>aW t λt=>match t with
    |true=>none
    |false=>gr R a b λg=>aW (eqF g 0) λt=>match t with
     |true=>k 0
     |false=>sd R a b λx y e=>sq R x y λs=>rt R s λr=>sc R r e k
def aYj(ab:KFF):KFB:=λR a k=>ab R a λx=>aW (leF x 9218868437227405311) λt=>k t
def aNr(fi:KFB):KCB:=λR a b k=>fi R a λt=>aW t λt=>match t with
 |true=>fi R b λt=>aW t λt=>k t
 |false=>k false
def bXf(ab:KFF):gU:=λR p q r s k=>
 ab R r λx=>ab R s λy=>aW (geF x y) λt=>match t with
 |true=>aM (fbF .quo s r) λh=>aM (fbF .mul s h) λsh=>aM (fbF .add r sh) λt=>
   aM (fbF .mul q h) λqh=>aM (fbF .add p qh) λn1=>aM (fbF .quo n1 t) λre=>
   aM (fbF .mul p h) λph=>aM (fbF .sub q ph) λn2=>aM (fbF .quo n2 t) λim=>k re im
 |false=>aM (fbF .quo r s) λh=>aM (fbF .mul r h) λrh=>aM (fbF .add rh s) λt=>
   aM (fbF .mul p h) λph=>aM (fbF .add ph q) λn1=>aM (fbF .quo n1 t) λre=>
   aM (fbF .mul q h) λqh=>aM (fbF .sub qh p) λn2=>aM (fbF .quo n2 t) λim=>k re im
def sPi:Sum:=λR args k=>match args with
 |[]=>k (.tuple ⟨[.float .f64 4614256656552045848,.float .f64 4368955796522032135]⟩)
 |_=>none
def aM3:Sum:=λR args k=>match args with
 |[.int .i64 s]=>bif s==1 then k (.float .f64 9218868437227405312) else bif s == -1 then k (.float .f64 18442240474082181120) else none
 |_=>none
def bA6{R:Type}(z:Nat):List Nat->Nat->(Nat->Option R)->Option R
 |[],s,k=>k s
 |r::rs,s,k=>aM (fbF .mul z s) λp=>aM (fbF .sub r p) λs=>bA6 z rs s k
def bA7{R:Type}(z:Nat):List Nat->Nat->(Nat->Option R)->Option R
 |[],s,k=>k s
 |r::rs,s,k=>aM (fbF .mul z s) λp=>aM (fbF .add r p) λs=>bA7 z rs s k
def aRa:List Nat:=[4581539473982948665,4581789782603141207,4582062340878461975,4582360253411952116,4582687230582855930,4583047743873852442,4583447231574686416,4583892375012758557,4584391475231203080,4584809698070499460,4585130310279789462,4585498420594159464,4585925428558828667,4586426698778222948,4587023449039406616,4587745830934523688,4588638185040256542,4589468260265693457,4590207312512236308,4591215111030249286,4592670820000712476,4594314991293244562,4596373779694328218,4599676419421066581,4607182418800017408]
def bM8:List Nat:=[4586426698778222948,4587023449039406616,4587745830934523688,4588638185040256542,4589468260265693457,4590207312512236308,4591215111030249286,4592670820000712476,4594314991293244562,4596373779694328218,4599676419421066581]
def bDl:KFF:=λR t k=>aW (gtF t 4601130706800738304) λfar=>match far with
 |true=>aM (fbF .sub t 4607182418800017408) λd=>aM (fbF .add t 4607182418800017408) λe=>aM (fbF .quo d e) λu=>
   aM (fbF .mul u u) λz=>bA6 z aRa 0 λs=>aM (fbF .mul u s) λv=>aM (fbF .add v 4359948597267291143) λx=>aM (fbF .add 4605249457297304856 x) k
 |false=>aM (fbF .mul t t) λz=>bA6 z aRa 0 λs=>aM (fbF .mul t s) k
def bX3:KFF:=λR f k=>aM (fbF .mul f f) λs=>bA7 s bM8 4585925428558828667 λq=>
 aM (fbF .mul 4611686018427387904 f) λa=>aM (fbF .mul s q) λx=>aM (fbF .mul a x) λy=>aM (fbF .add a y) k
def cEi(fi:Fi)(infP:KFB)(pa:aH6)(odd:KFF):KFF:=λR x k=>aW (neF x x) λt=>match t with
 |true=>k x
 |false=>infP R x λt=>aW t λt=>match t with
  |true=>k x
  |false=>aW (ltF x 0) λt=>match t with
   |true=>none
   |false=>aW (eqF x 0) λt=>match t with
    |true=>k 18442240474082181120
    |false=>pa R x λm e=>
     let rest:Nat->Int->Option R:=λm e=>bH (floatOfInt .f64 e) λn=>aM (fbF .mul n 4604418534311723008) λh=>aM (fbF .mul n 4461442080421002358) λl=>
      aM (fbF .sub m 4607182418800017408) λp=>aM (fbF .add m 4607182418800017408) λq=>aM (fbF .quo p q) λf=>odd R f λo=>aM (fbF .add l o) λx=>aM (fbF .add h x) k
     aW (ltF m 4604544271217802189) λt=>match t with
     |true=>aM (fbF .mul 4611686018427387904 m) λm=>fi R (K9.i64.wrap (e-1)) λe=>rest m e
     |false=>rest m e
def bVj(fi:Fi):KFB:=λR x k=>fi R (K9.i64.wrap (x:Int)) λn=>aW (decide (n<0)) λt=>k t
def bIo(sg:KFB):KFB:=λR x k=>aW (eqF x x) λt=>match t with
 |true=>sg R x λt=>aW t λt=>k t
 |false=>k false
def bBb(mi:KFB)(ab:KFF):vS:=λR a b k=>mi R b λt=>aW t λt=>match t with
 |true=>ab R a λx=>bH (Op.negFloat .f64 x) k
 |false=>ab R a k
def bHd(ab:KFF)(infP:KFB)(core:KFF)(mi:KFB)(sd:vS):vS:=λR y x k=>aW (neF y y) λt=>match t with
 |true=>none
 |false=>aW (neF x x) λt=>match t with
  |true=>none
  |false=>ab R y λp=>ab R x λq=>
   let rest:Nat->Option R:=λb=>mi R x λt=>aW t λt=>match t with
    |true=>aM (fbF .sub b 4368955796522032135) λc=>aM (fbF .sub 4614256656552045848 c) λb=>sd R b y k
    |false=>sd R b y k
   let three:Option R:=aW (leF p q) λt=>match t with
    |true=>aM (fbF .quo p q) λt=>core R t rest
    |false=>aM (fbF .quo q p) λt=>core R t λc=>aM (fbF .sub c 4364452196894661639) λd=>aM (fbF .sub 4609753056924675352 d) rest
   aW (eqF p 0) λt=>match t with
   |true=>rest 0
   |false=>aW (eqF p q) λt=>match t with
    |true=>infP R p λt=>aW t λt=>match t with
     |true=>rest 4605249457297304856
     |false=>three
    |false=>three
def bAp(len:KCF)(lg:KFF)(an:vS):KCC:=λR a b k=>len R a b λl=>lg R l λx=>an R b a λy=>k x y
structure Mp where
 a1:Nat
 a2:Nat
 b1:Nat
 b2:Nat
 c1:Nat
 c2:Nat
 d1:Nat
 d2:Nat
 p:Nat
def cGc{R:Type}(v:V9)(k:Int->Mp->Option R):Option R:=match v with
 |.agg ⟨[.int .u8 i,.complex .f64 a1 a2,.complex .f64 b1 b2,.complex .f64 c1 c2,.complex .f64 d1 d2,.float .f64 p]⟩=>k i ⟨a1,a2,b1,b2,c1,c2,d1,d2,p⟩
 |_=>none
def bR6{R:Type}:List Int->Int->(Int->Option R)->Option R
 |[],_,_=>none
 |c::cs,e,ke=>aW (e==c) λt=>match t with
  |true=>ke c
  |false=>bR6 cs e ke
def zOk{R:Type}(k:KVO R)(x y:Nat):Option R:=k (.tuple ⟨[.complex .f64 x y,.int .i64 0]⟩)
abbrev KMZ:=∀R:Type,Mp->Nat->Nat->(Int->Option R)->(Nat->Nat->Option R)->Option R
def aP7(g0 gp gm:KFB):Sum:=λR args k=>match args with
 |[.float .f64 a,.int .i64 s]=>bif s==0 then g0 R a λt=>aW t λt=>k (.bool t) else bif s==1 then gp R a λt=>aW t λt=>k (.bool t) else
   bif s == -1 then gm R a λt=>aW t λt=>k (.bool t) else none
 |_=>none
def aBk:KFB:=λR a k=>aW (gtF a 9218868437227405311) λt=>k t
def aJd:KFB:=λR a k=>bH (Op.negFloat .f64 a) λx=>aW (gtF x 9218868437227405311) λt=>k t
abbrev mO:=∀R:Type,Nat->Nat->Nat->(Nat->Nat->Option R)->Option R
def tF(g:mO):Sum:=λR args k=>match args with
 |[.complex .f64 a b,.float .f64 c]=>g R a b c λx y=>k (.complex .f64 x y)
 |_=>none
def eQ:mO:=λR a b c k=>aM (fbF .mul a c) λx=>aM (fbF .mul b c) λy=>k x y
def cBt{R:Type}(L:List Int)(k:KVO R)(e:Int):Option R:=bR6 L e λe=>k (.tuple ⟨[.complex .f64 0 0,.int .i64 e]⟩)
end Go.Vm
