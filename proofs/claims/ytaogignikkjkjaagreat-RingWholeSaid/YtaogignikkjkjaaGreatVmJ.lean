/- A part of the evaluator and of what is told of floats; no conditions. -/
import Derived.Test.YtaogignikkjkjaaGreatVmH
import Derived.LoopN
set_option linter.unusedSimpArgs false
set_option linter.unusedVariables false
set_option linter.unusedSectionVars false
set_option maxRecDepth 1000000
namespace Go.Vm
abbrev Sum:=∀ R:Type,List Value→(Value→Option R)→Option R
abbrev HSum:=∀ R:Type,List Value→AH→(Value→Option R)→Option R
abbrev MSum:=∀ R:Type,List Value→AH→(Value→AH→Option R)→Option R
abbrev Ld:=∀ R:Type,List Value→Nat→(Value→Option R)→Option R
abbrev St:=∀ R:Type,List Value→Nat→List Value→(List Value→Option R)→Option R
abbrev Ap:=∀ R:Type,TypeId→List Value→Nat→Nat→List Value→Nat→Nat→(List Value→Option R)→Option R
structure Mm where
 lim:Nat→Bool
 ld:TypeId→Option Ld
 st:St
 ap:Ap
structure Cx where
 P:Program
 sums:FuncId→Option Sum
 exts:FuncId→Option Sum
 meths:TypeId→String→Option FuncId
 wild:FuncId→Bool
 fi:Fi
 nn:Bool
 nan1:FuncId→Bool
 defs:FuncId→Bool
 hs:FuncId→List Value→AH→Option Value
 gs:FuncId→Option HSum:=fun _=>none
 ms:FuncId→List Value→AH→Option (Value×AH):=fun _ _ _=>none
 gc:Bool:=false
 mg:FuncId→Option MSum:=fun _=>none
 mm:Option Mm:=none
def LdOk (P:Program) (t:TypeId) (g:Ld):Prop:=∀(R:Type) (cs:List Value) (off:Nat) (k:Value→Option R) (r:R),g R cs off k=some r→∃ v,k v=some r∧∀(R':Type) (k':Value→Option R'),loadE P t cs off k'=k' v
def StOk (g:St):Prop:=∀(R:Type) (cs:List Value) (off:Nat) (vs:List Value) (k:List Value→Option R) (r:R),g R cs off vs k=some r→off+vs.length≤cs.length∧k (splice cs off vs)=some r
def ApOk (P:Program) (g:Ap):Prop:=∀(R:Type) (t:TypeId) (cs:List Value) (n c:Nat) (cx:List Value) (off m:Nat) (k:List Value→Option R) (r:R),g R t cs n c cx off m k=some r→
 ∃ e i z,P.underlying t=some (.slice e)∧P.info? e=some i∧i.zero=some z∧0<i.size∧z.cells.size=i.size∧c=n∧0<m∧(n+m)*i.bytes≤140737488355328∧n+m≤1099511627776∧
  cs.length=n*i.size∧((cx.drop off).take (m*i.size)).length=m*i.size∧allOne ((cx.drop off).take (m*i.size))=true∧k (cs++(cx.drop off).take (m*i.size))=some r
structure Mm.Ok (P:Program) (M:Mm):Prop where
 ld:∀ t g,M.ld t=some g→LdOk P t g
 st:StOk M.st
 ap:ApOk P M.ap
def MSumOk (P:Program) (f:FuncId) (g:MSum):Prop:=
 ∀(R:Type) (args:List Value) (H:AH) (k:Value→AH→Option R) (r:R),g R args H k=some r→∃ v H',k v H'=some r∧
  ∀(lo:Nat) (ρ:Map) (w:World) (args':List Value),Inv ρ H w→lo≤H.next→VRels ρ args args'→Calls P f ⟨args'⟩ w fun e w'=>∃ ρ' v',e=.returned v'∧VRel ρ' v v'∧Next lo ρ H w ρ' H' w'
def HSumOk (P:Program) (f:FuncId) (g:HSum):Prop:=
 ∀(R:Type) (args:List Value) (H:AH) (k:Value→Option R) (r:R),g R args H k=some r→∃ v,k v=some r∧flat v=true∧
  ∀(ρ:Map) (w:World) (args':List Value),Inv ρ H w→VRels ρ args args'→Calls P f ⟨args'⟩ w fun e w'=>e=.returned v∧RowKit.Below w.heap.size w w'
def SumOk (P:Program) (f:FuncId) (g:Sum):Prop:=
 ∀(R:Type) (args:List Value) (k:Value→Option R) (r:R),g R args k=some r→inns 0 args=true∧∃ v,k v=some r∧flat v=true∧
  ∀ w,Calls P f ⟨args⟩ w fun e w'=>e=.returned v∧RowKit.Below w.heap.size w w'
def ExtOk (P:Program) (f:FuncId) (g:Sum):Prop:=
 ∀(R:Type) (args:List Value) (k:Value→Option R) (r:R),g R args k=some r→inns 0 args=true∧∃ v,k v=some r∧flat v=true∧
  ∀ w,(callFunc f ⟨args⟩).run P w=.ok (.value v) w
structure Cx.Ok (C:Cx):Prop where
 fair:C.fi.Fair
 sums : ∀ f g, C.sums f = some g → SumOk C.P f g ∧ ∃ fn c, C.P.funcs[f]? = some fn ∧ (fn.name == "runtime.NumGoroutine") = false ∧ fn.body = some c
 exts:∀ f g,C.exts f=some g→ExtOk C.P f g
 meths:∀ t s f,C.meths t s=some f→∀ v w,(method (C.P.types.size+Made.depth) t v s).run C.P w=.ok (f,v) w
 hs : ∀ f args H v, C.hs f args H = some v → (∃ fn c, C.P.funcs[f]? = some fn ∧ (fn.name == "runtime.NumGoroutine") = false ∧ fn.body = some c) ∧ flat v = true ∧
  ∀(ρ:Map) (w:World) (args':List Value),Inv ρ H w→VRels ρ args args'→Calls C.P f ⟨args'⟩ w fun e w'=>e=.returned v∧RowKit.Below w.heap.size w w'
 nan1 : ∀ f, C.nan1 f = true → (∃ fn c, C.P.funcs[f]? = some fn ∧ (fn.name == "runtime.NumGoroutine") = false ∧ fn.body = some c) ∧
  ∀ b,nanW b=true→∀ w,Calls C.P f ⟨[.float .f64 b]⟩ w fun e w'=>(∃ c,nanW c=true∧e=.returned (.float .f64 c))∧RowKit.Below w.heap.size w w'
 gs : ∀ f g, C.gs f = some g → HSumOk C.P f g ∧ ∃ fn c, C.P.funcs[f]? = some fn ∧ (fn.name == "runtime.NumGoroutine") = false ∧ fn.body = some c := by intro f g h; cases h
 ms : ∀ f args H p, C.ms f args H = some p → (∃ fn c, C.P.funcs[f]? = some fn ∧ (fn.name == "runtime.NumGoroutine") = false ∧ fn.body = some c) ∧
  ∀(lo:Nat) (ρ:Map) (w:World) (args':List Value),Inv ρ H w→lo≤H.next→VRels ρ args args'→Calls C.P f ⟨args'⟩ w fun e w'=>∃ ρ' v',e=.returned v'∧VRel ρ' p.1 v'∧Next lo ρ H w ρ' p.2 w':=by intro f args H p h;cases h
 mg : ∀ f g, C.mg f = some g → MSumOk C.P f g ∧ ∃ fn c, C.P.funcs[f]? = some fn ∧ (fn.name == "runtime.NumGoroutine") = false ∧ fn.body = some c := by intro f g h; cases h
 mm:∀ M,C.mm=some M→M.Ok C.P:=by intro M h;cases h
inductive Ex where
 |normal
 |exit (id:Nat)
 |ret
def Ex.to:Ex→Exit
 |.normal=>.normal
 |.exit id=>.exit id
 |.ret=>.ret
abbrev Cal (R:Type):=Nat→FuncId→Func→Code→List Value→AH→(Value→AH→Option R)→Option R
def tidy (H H':AH) (v:Value):AH:=bif inn H.next v then H else H'
def bodyE {R:Type} (C:Cx) (cal:Cal R) (lo:Nat) (f:FuncId) (args:List Value) (H:AH) (k:Value→AH→Option R):Option R:=
 match C.P.funcs[f]? with
 |none=>none
 |some fn=>
  match fn.body with
  |some c=>
   bif !(fn.name == "runtime.NumGoroutine") then
    bif C.wild f then cal lo f fn c args H k
    else cal H.next f fn c args H fun v H'=>k v (tidy H H' v)
   else none
  |none=>
   bif inns 0 args then
    match calm C.P (callFunc f ⟨args⟩) with
    |some (.value v)=>bif flat v then k v H else none
    |_=>none
   else none
def extE {R:Type} (C:Cx) (cal:Cal R) (lo:Nat) (f:FuncId) (args:List Value) (H:AH) (k:Value→AH→Option R):Option R:=
 match C.exts f with
 |some g=>g R args fun v=>k v H
 |none=>bodyE C cal lo f args H k
def oneNan (args:List Value):Bool:=match args with | [.float .f32 _]=>true|_=>false
def callE {R:Type} (C:Cx) (cal:Cal R) (lo:Nat) (f:FuncId) (args:List Value) (H:AH) (k:Value→AH→Option R):Option R:=
 match C.nn with
 |false=>
  match C.mg f with
  |some g=>g R args H k
  |none=>
  match C.gs f with
  |some g=>g R args H fun v=>k v H
  |none=>
   match C.sums f with
   |some g=>g R args fun v=>k v H
   |none=>extE C cal lo f args H k
 |true=>
  bif C.nan1 f && oneNan args then k (.float .f32 0) H
  else match C.ms f args H with
   |some p=>k p.1 p.2
   |none=>
   match C.hs f args H with
   |some v=>k v H
   |none=>
    match C.sums f with
    |some g=>
     match g Value args some with
     |some v=>k v H
     |none=>bodyE C cal lo f args H k
    |none=>extE C cal lo f args H k
def CalOk (P:Program) {R:Type} (cal:Cal R):Prop:=
 ∀ lo f fn c args H k r,cal lo f fn c args H k=some r→P.funcs[f]?=some fn→fn.body=some c→
  ∃ v H',k v H'=some r∧∀ ρ w args',Inv ρ H w→lo≤H.next→VRels ρ args args'→Calls P f ⟨args'⟩ w fun e w'=>∃ ρ' v',e=.returned v'∧VRel ρ' v v'∧Next lo ρ H w ρ' H' w'
theorem below_next {lo:Nat} {ρ:Map} {H:AH} {w w':World} (hi:Inv ρ H w) (hb:RowKit.Below w.heap.size w w'):Next lo ρ H w ρ H w':=
 Next.forget (lo:=lo) (ρ':=ρ) (H':=H) hi
  {inv:=⟨hi.dom,hi.wf,hi.one,⟨fun k o hm=>let ⟨s,h1,h2⟩:=hi.rel.obj k o hm;⟨s,h1,h2.heap (hb.block s.b h2.lt)⟩,hi.rel.inj⟩⟩
   same:=fun _ _=>rfl
   nx:=Nat.le_refl _
   size:=hb.size
   os:=hb.os
   tape:=hb.tape
   output:=hb.output
   keep:=fun b hb' _=>hb.block b hb'
   own:=fun k o s hk hm he=>.inr ⟨k,o,s,hk,hm,he,rfl⟩
   old:=fun _ _ _=>Iff.rfl }
def CallDone (P:Program) (lo:Nat) (s:Sem Go.Next) (ρ:Map) (H:AH) (w:World) (v:Value) (H':AH):Prop:=
 (∃ v',s.run P w=.ok (.value v') w∧VRel ρ v v'∧H'=H)∨
 (∃ f args',s.run P w=.ok (.enter f args') w∧Calls P f args' w fun e w'=>∃ ρ' v',e=.returned v'∧VRel ρ' v v'∧Next lo ρ H w ρ' H' w')
theorem run_callFunc_enter {P : Program} {f : FuncId} {fn : Func} {c : Code} {args : Array Value} {w : World} (hf : P.funcs[f]? = some fn) (hn : (fn.name == "runtime.NumGoroutine") = false) (hb : fn.body = some c) :
  (callFunc f args).run P w=.ok (.enter f args) w:=by
 have hn' : ¬ fn.name = "runtime.NumGoroutine" := by simpa using hn
 simp[callFunc,hf,hn',hb]
theorem bodyE_sound {R:Type} {C:Cx} {cal:Cal R} (hcal:CalOk C.P cal) {lo:Nat} {f:FuncId} {args:List Value} {H:AH} {k:Value→AH→Option R} {r:R}
  (h:bodyE C cal lo f args H k=some r):
  ∃ v H',k v H'=some r∧∀{ρ:Map} {w:World} {args':List Value},Inv ρ H w→lo≤H.next→VRels ρ args args'→CallDone C.P lo (callFunc f ⟨args'⟩) ρ H w v H':=by
 unfold bodyE at h; split at h
 ·cases h
 ·rename_i fn hf; split at h
  ·rename_i c hb; cases hn : (fn.name == "runtime.NumGoroutine") with
   |true=>rw[hn]at h;cases h
   |false=>
    rw[hn]at h
    simp only[Bool.not_false,cond_true]at h
    cases hw:C.wild f with
    |true=>
     rw[hw]at h
     obtain⟨v,H',g1,g2⟩:=hcal _ _ _ _ _ _ _ _ h hf hb
     exact⟨v,H',g1,fun{ρ w args'} hi hlo ha=>.inr ⟨f,_,run_callFunc_enter hf hn hb,g2 ρ w args' hi hlo ha⟩⟩
    |false=>
     rw[hw]at h
     obtain⟨v,H',g1,g2⟩:=hcal _ _ _ _ _ _ _ _ h hf hb
     refine⟨v,tidy H H' v,g1,fun{ρ w args'} hi hlo ha=>.inr ⟨f,_,run_callFunc_enter hf hn hb,(g2 ρ w args' hi (Nat.le_refl _) ha).mono ?_⟩⟩
     rintro e w' ⟨ρ',v',rfl,hv,hnx⟩
     unfold tidy; cases hin:inn H.next v with
     |true=>exact⟨ρ,v',rfl,hv.scope hnx.same hin,hnx.forget hi⟩
     |false=>exact⟨ρ',v',rfl,hv,hnx.weaken hlo hi⟩
  ·cases hfl:inns 0 args with
   |false=>rw[hfl]at h;cases h
   |true=>
    rw[hfl]at h
    simp only[cond_true]at h
    split at h
    ·rename_i v hc; cases hf':flat v with
     |false=>rw[hf']at h;cases h
     |true=>
      rw[hf']at h
      refine⟨v,H,h,fun{ρ w args'} hi hlo ha=>?_⟩
      have:=ha.flat_eq hfl
      subst this; exact .inl ⟨v,calm_run hc w,VRel.ofFlat ρ hf',rfl⟩
    ·cases h
theorem extE_sound {R:Type} {C:Cx} {cal:Cal R} (hC:C.Ok) (hcal:CalOk C.P cal) {lo:Nat} {f:FuncId} {args:List Value} {H:AH} {k:Value→AH→Option R} {r:R}
  (h:extE C cal lo f args H k=some r):
  ∃ v H',k v H'=some r∧∀{ρ:Map} {w:World} {args':List Value},Inv ρ H w→lo≤H.next→VRels ρ args args'→CallDone C.P lo (callFunc f ⟨args'⟩) ρ H w v H':=by
 unfold extE at h; split at h
 ·rename_i g hg
  obtain⟨hfl,v,g1,g2,g3⟩:=hC.exts f g hg _ _ _ _ h
  refine⟨v,H,g1,fun{ρ w args'} hi hlo ha=>?_⟩
  have:=ha.flat_eq hfl
  subst this; exact .inl ⟨v,g3 w,VRel.ofFlat ρ g2,rfl⟩
 ·exact bodyE_sound hcal h
theorem sumE_sound {C:Cx} (hC:C.Ok) {lo:Nat} {f:FuncId} {g:Sum} (hg:C.sums f=some g) {R:Type} {args:List Value} {k:Value→Option R} {r:R} (h:g R args k=some r):
  ∃ v,k v=some r∧∀{ρ:Map} {H:AH} {w:World} {args':List Value},Inv ρ H w→lo≤H.next→VRels ρ args args'→CallDone C.P lo (callFunc f ⟨args'⟩) ρ H w v H:=by
 obtain⟨hs,fn,c,h1,h2,h3⟩:=hC.sums f g hg
 obtain⟨hfl,v,g1,g2,g3⟩:=hs _ _ _ _ h
 refine⟨v,g1,fun{ρ H w args'} hi hlo ha=>?_⟩
 have:=ha.flat_eq hfl
 subst this; refine .inr ⟨f,_,run_callFunc_enter h1 h2 h3,(g3 w).mono ?_⟩
 rintro e w' ⟨rfl,hb⟩
 exact⟨ρ,v,rfl,VRel.ofFlat ρ g2,below_next hi hb⟩
theorem callE_sound {R:Type} {C:Cx} {cal:Cal R} (hC:C.Ok) (hcal:CalOk C.P cal) {lo:Nat} {f:FuncId} {args:List Value} {H:AH} {k:Value→AH→Option R} {r:R}
  (h:callE C cal lo f args H k=some r):
  ∃ v H',k v H'=some r∧∀{ρ:Map} {w:World} {args':List Value},Inv ρ H w→lo≤H.next→VRels ρ args args'→CallDone C.P lo (callFunc f ⟨args'⟩) ρ H w v H':=by
 unfold callE at h; split at h
 ·split at h
  ·rename_i g hg
   obtain⟨hs,fn,c,q1,q2,q3⟩:=hC.mg f g hg
   obtain⟨v,H',h1,h2⟩:=hs _ _ _ _ _ h
   exact⟨v,H',h1,fun{ρ w args'} hi hlo ha=>.inr ⟨f,_,run_callFunc_enter q1 q2 q3,h2 lo ρ w args' hi hlo ha⟩⟩
  split at h
  ·rename_i g hg
   obtain⟨hs,fn,c,q1,q2,q3⟩:=hC.gs f g hg
   obtain⟨v,h1,h2,h3⟩:=hs _ _ _ _ _ h
   refine⟨v,H,h1,fun{ρ w args'} hi hlo ha=>.inr ⟨f,_,run_callFunc_enter q1 q2 q3,(h3 ρ w args' hi ha).mono ?_⟩⟩
   rintro e w' ⟨rfl,hbl⟩
   exact⟨ρ,v,rfl,VRel.ofFlat ρ h2,below_next hi hbl⟩
  ·split at h
   ·rename_i g hg
    obtain⟨v,h1,h2⟩:=sumE_sound hC (lo:=lo) hg h
    exact⟨v,H,h1,fun hi hlo ha=>h2 hi hlo ha⟩
   ·exact extE_sound hC hcal h
 ·cases hn:(C.nan1 f && oneNan args) with
  |true=>
   rw[hn]at h
   simp only[Bool.and_eq_true]at hn
   obtain⟨⟨fn,c,q1,q2,q3⟩,q4⟩:=hC.nan1 f hn.1
   refine⟨_,H,h,fun{ρ w args'} hi hlo ha=>?_⟩
   have h1:=hn.2; unfold oneNan at h1; split at h1
   ·obtain _|⟨r1,r2⟩:=ha; cases r2; cases r1 with|nan _ hb=>
    refine .inr ⟨f,_,run_callFunc_enter q1 q2 q3,(q4 _ hb w).mono ?_⟩
    rintro e w' ⟨⟨c,hc,rfl⟩,hbl⟩
    exact⟨ρ,_,rfl,.nan 0 hc,below_next hi hbl⟩
   ·cases h1
  |false=>
   rw[hn]at h
   simp only[cond_false]at h
   split at h
   ·rename_i p hp
    obtain⟨⟨fn,c,q1,q2,q3⟩,q5⟩:=hC.ms f args H p hp
    exact⟨p.1,p.2,h,fun{ρ w args'} hi hlo ha=>.inr ⟨f,_,run_callFunc_enter q1 q2 q3,q5 lo ρ w args' hi hlo ha⟩⟩
   split at h
   ·rename_i v hv
    obtain⟨⟨fn,c,q1,q2,q3⟩,q4,q5⟩:=hC.hs f args H v hv
    refine⟨v,H,h,fun{ρ w args'} hi hlo ha=>.inr ⟨f,_,run_callFunc_enter q1 q2 q3,(q5 ρ w args' hi ha).mono ?_⟩⟩
    rintro e w' ⟨rfl,hbl⟩
    exact⟨ρ,v,rfl,VRel.ofFlat ρ q4,below_next hi hbl⟩
   ·split at h
    ·rename_i g hg; split at h
     ·rename_i v hv
      obtain⟨v',h1,h2⟩:=sumE_sound hC (lo:=lo) hg hv
      cases h1
      exact⟨v,H,h,fun hi hlo ha=>h2 hi hlo ha⟩
     ·exact bodyE_sound hcal h
    ·exact extE_sound hC hcal h
def loadM {R:Type} (M:Mm) (t:TypeId) (H:AH) (ad:Addr) (k:Value→AH→Option R):Option R:=
 match look ad.block H.objs with
 |some (.cells cs _)=>match M.ld t with
  |some g=>g R cs ad.off fun v=>k v H
  |none=>none
 |_=>none
def storeM {R:Type} (M:Mm) (P:Program) (lo:Nat) (H:AH) (t:TypeId) (ad:Addr) (v:Value) (k:AH→Option R):Option R:=
 match look ad.block H.objs with
 |some (.cells cs sz)=>
  bif Nat.ble lo ad.block && Nat.beq v.cells.toList.length (P.cellsOf t) && !Nat.beq (P.cellsOf t) 0 && allOne v.cells.toList && ad.spot.isNone then
   M.st R cs ad.off v.cells.toList fun cs=>k (H.put ad.block (.cells cs sz))
  else none
 |_=>none
def appendM {R:Type} (M:Mm) (P:Program) (lo:Nat) (H:AH) (t t':TypeId) (s:Value) (ad:Addr) (m:Nat) (k:Value→AH→Option R):Option R:=
 bif Nat.beq t t' && ad.spot.isNone then
  match P.underlying t with
  |some (.slice e)=>
   match look ad.block H.objs with
   |some (.cells cx _)=>
    match s with
    |.slice none 0 0=>M.ap R t [] 0 0 cx ad.off m fun cs=>k (.slice (some ⟨H.next,0,none⟩) m m) (H.push (.cells cs (P.cellsOf e)))
    |.slice (some sd) n c=>
     match look sd.block H.objs with
     |some (.cells cs sz)=>
      bif sd.spot.isNone && Nat.beq sd.off 0 && !Nat.beq sd.block ad.block then
       bif Nat.beq sz 0 then M.ap R t cs n c cx ad.off m fun cs=>k (.slice (some ⟨H.next,0,none⟩) (n+m) (n+m)) (H.push (.cells cs (P.cellsOf e)))
       else bif Nat.beq sz (P.cellsOf e) && Nat.ble lo sd.block then M.ap R t cs n c cx ad.off m fun cs=>k (.slice (some ⟨H.next,0,none⟩) (n+m) (n+m)) ⟨H.next+1,(H.next,.cells cs (P.cellsOf e))::drop sd.block H.objs⟩
       else none
      else none
     |_=>none
    |_=>none
   |_=>none
  |_=>none
 else none
theorem cells_info {P:Program} {e:TypeId} {i:TypeInfo} (h:P.info? e=some i):P.cellsOf e=i.size:=by unfold Program.cellsOf;rw[h];rfl
theorem blt_eq_of {a b:Nat} (h:a<b):Nat.blt a b=true:=by rw[Nat.blt_eq];exact h
theorem ble_eq_of {a b:Nat} (h:a≤b):Nat.ble a b=true:=by rw[Nat.ble_eq];exact h
theorem blt_self (a:Nat):Nat.blt a a=false:=by
 cases hb:Nat.blt a a with
 |true=>rw[Nat.blt_eq]at hb;omega
 |false=>rfl
theorem appendM_sound {R:Type} {M:Mm} {P:Program} (hM:M.Ok P) {lo:Nat} {H:AH} {t t':TypeId} {s:Value} {ad:Addr} {m cx:Nat} {k:Value→AH→Option R} {r:R} (h:appendM M P lo H t t' s ad m k=some r):
  appendX P lo H [t,t'] s (.slice (some ad) m cx) k=some r:=by
 unfold appendM at h; cases h0:(Nat.beq t t' && ad.spot.isNone) with
 |false=>rw[h0]at h;cases h
 |true=>
 rw[h0]at h
 simp only[cond_true]at h
 simp only[Bool.and_eq_true]at h0
 obtain⟨h0,hsp⟩:=h0
 have h0':=Nat.eq_of_beq_eq_true h0; subst h0'; split at h
 case h_2=>cases h
 rename_i e hu; split at h
 case h_2=>cases h
 rename_i cxs szx hx; split at h
 ·obtain⟨e',i,z,q1,q2,q3,q4,q5,q6,q7,q8,q9,q10,q11,q12,q13⟩:=hM.ap _ _ _ _ _ _ _ _ _ _ h
  rw[hu]at q1
  cases q1
  rw[cells_info q2]at q13
  unfold appendX; simp only[forceTop_eq]; unfold appendE; simp only[h0,hu,q2,q3,cond_true,blt_eq_of q4,show Nat.beq z.cells.size i.size=true by rw[q5];exact Nat.beq_refl _,Bool.and_self]; unfold newsE; simp only[hx,hsp,q11,Nat.beq_refl,Bool.and_self,cond_true,Option.bind_some,blt_eq_of q7,q12]; simp only[Nat.zero_add]at q8 q9
  rw[ble_eq_of q8,ble_eq_of q9]
  simpa using q13
 ·rename_i sd n c; split at h
  case h_2=>cases h
  rename_i cs sz hl; cases h1:(sd.spot.isNone && Nat.beq sd.off 0 && !Nat.beq sd.block ad.block) with
  |false=>rw[h1]at h;cases h
  |true=>
  rw[h1]at h
  simp only[cond_true]at h
  simp only[Bool.and_eq_true]at h1
  obtain⟨⟨s1,s2⟩,s3⟩:=h1
  have s2':=Nat.eq_of_beq_eq_true s2; have key:∀(k':List Value→Option R),M.ap R t cs n c cxs ad.off m k'=some r→(Nat.beq sz 0=true∧(∀ cs2,k' cs2=k (.slice (some ⟨H.next,0,none⟩) (n+m) (n+m)) (H.push (.cells cs2 (P.cellsOf e))))
    ∨Nat.beq sz 0=false∧sz=P.cellsOf e∧Nat.ble lo sd.block=true∧∀ cs2,k' cs2=k (.slice (some ⟨H.next,0,none⟩) (n+m) (n+m)) ⟨H.next+1,(H.next,.cells cs2 (P.cellsOf e))::drop sd.block H.objs⟩)→
    appendX P lo H [t,t] (.slice (some sd) n c) (.slice (some ad) m cx) k=some r:=by
   intro k' g alt
   obtain⟨e',i,z,q1,q2,q3,q4,q5,q6,q7,q8,q9,q10,q11,q12,q13⟩:=hM.ap _ _ _ _ _ _ _ _ _ _ g
   rw[hu]at q1
   cases q1
   have olds:newsE H i.size sd n=some cs:=by
    unfold newsE
    rw[hl]
    simp only[s1,s2',List.drop_zero]
    rw[List.take_of_length_le (by omega),q10]
    simp
   have news:newsE H i.size ad m=some ((cxs.drop ad.off).take (m*i.size)):=by
    unfold newsE
    rw[hx]
    simp only[hsp,q11,Nat.beq_refl,Bool.and_self,cond_true]
   subst q6; have main:appendX P lo H [t,t] (.slice (some sd) c c) (.slice (some ad) m cx) k =
     bif Nat.beq sz 0 then k (.slice (some ⟨H.next,0,none⟩) (c+m) (c+m)) (H.push (.cells (cs++(cxs.drop ad.off).take (m*i.size)) i.size))
     else bif Nat.beq sz i.size && Nat.beq sd.off 0 && Nat.beq cs.length (c*i.size) && Nat.ble lo sd.block then
      k (.slice (some ⟨H.next,0,none⟩) (c+m) (c+m)) ⟨H.next+1,(H.next,.cells (cs++(cxs.drop ad.off).take (m*i.size)) i.size)::drop sd.block H.objs⟩
     else none:=by
    unfold appendX; simp only[blt_self,cond_false,forceTop_eq]; unfold appendE; simp only[Nat.beq_refl,hu,q2,q3,cond_true,blt_eq_of q4,show Nat.beq z.cells.size i.size=true by rw[q5];exact Nat.beq_refl _,Bool.and_self]
    rw[news]
    simp only[Option.bind_some,blt_eq_of q7,q12,Bool.and_self,cond_true,hl,olds,Nat.beq_refl,ble_eq_of q8,ble_eq_of q9]
   rw[cells_info q2]at alt
   rcases alt with ⟨a1,a2⟩|⟨a1,a2,a3,a4⟩
   ·rw[a2]at q13
    rw[main,a1];exact q13
   ·rw[a4]at q13
    rw[main,a1,a2,s2',q10,a3]
    simpa using q13
  cases hz:Nat.beq sz 0 with
  |true=>
   rw[hz]at h
   exact key _ h (.inl ⟨hz,fun _=>rfl⟩)
  |false=>
   rw[hz]at h
   simp only[cond_false]at h
   cases hb:(Nat.beq sz (P.cellsOf e) && Nat.ble lo sd.block) with
   |false=>rw[hb]at h;cases h
   |true=>
    rw[hb]at h
    simp only[Bool.and_eq_true]at hb
    exact key _ h (.inr ⟨hz,Nat.eq_of_beq_eq_true hb.1,hb.2,fun _=>rfl⟩)
 ·cases h
def limOf (v:Value) (L:Nat→Bool):Bool:=match v with
 |.pointer (some ad)=>L ad.block
 |.slice (some ad) _ _=>L ad.block
 |_=>false
def splitV {R:Type} (v:Value) (k:Value→R):R:=match v with
 |.bool b=>bif b then k (.bool true) else k (.bool false)
 |v=>k v
theorem splitV_eq {R:Type} (v:Value) (k:Value→R):splitV v k=k v:=by
 unfold splitV; split
 ·rename_i b;cases b<;>rfl
 ·rfl
def evM {R:Type} (M:Mm) (C:Cx) (lo:Nat) (e:Env) (H:AH) (o:Oper) (k:Value→AH→Option R):Option R:=
 match o.op with
 |.load t x=>(opd e x).bind fun v=>bif limOf v M.lim then (match v with | .pointer (some ad)=>loadM M t H ad k|_=>none) else evOp C.nn C.fi C.P lo e H o k
 |.store t x y=>(opd e x).bind fun p=>bif limOf p M.lim then (opd e y).bind fun v=>(match p with | .pointer (some ad)=>storeM M C.P lo H t ad v fun H=>k undef H|_=>none) else evOp C.nn C.fi C.P lo e H o k
 |.call { callee:=.builtin .append,args:=xs,argTypes:=ts }=>(opds e xs.toList).bind fun vs=>
   match vs,ts.toList with
   |[s,.slice (some ad) m _],[t,t']=>bif limOf s M.lim || M.lim ad.block then appendM M C.P lo H t t' s ad m k else evOp C.nn C.fi C.P lo e H o k
   |_,_=>evOp C.nn C.fi C.P lo e H o k
 |.binOp _ _ _ _ _=>evOp C.nn C.fi C.P lo e H o fun v H=>splitV v fun v=>k v H
 |_=>evOp C.nn C.fi C.P lo e H o k
theorem evM_evOp {R:Type} {M:Mm} {C:Cx} (hM:M.Ok C.P) {lo:Nat} {e:Env} {H:AH} {o:Oper} {k:Value→AH→Option R} {r:R} (h:evM M C lo e H o k=some r):evOp C.nn C.fi C.P lo e H o k=some r:=by
 unfold evM at h; split at h
 ·rename_i t x ho
  obtain⟨v,h1,h⟩:=bind_some' h
  cases hl:limOf v M.lim with
  |false=>rw[hl]at h;exact h
  |true=>
   rw[hl]at h
   simp only[cond_true]at h
   split at h
   ·rename_i ad; unfold loadM at h; split at h
    ·rename_i cs sz hk; split at h
     ·rename_i g hg
      obtain⟨u,g1,g2⟩:=hM.ld t g hg _ _ _ _ _ h
      unfold evOp
      rw[ho]
      simp only[h1,Option.bind_some,hk,g2]
      exact g1
     ·cases h
    ·cases h
   ·cases h
 ·rename_i t x y ho
  obtain⟨p,h1,h⟩:=bind_some' h
  cases hl:limOf p M.lim with
  |false=>rw[hl]at h;exact h
  |true=>
   rw[hl]at h
   simp only[cond_true]at h
   obtain⟨v,h2,h⟩:=bind_some' h
   cases p with
   |pointer a=>
    cases a with
    |none=>cases hl
    |some ad=>
     simp only at h; unfold storeM at h; split at h
     ·rename_i cs sz hk; cases hb:(Nat.ble lo ad.block && Nat.beq v.cells.toList.length (C.P.cellsOf t) && !Nat.beq (C.P.cellsOf t) 0 && allOne v.cells.toList && ad.spot.isNone) with
      |false=>rw[hb]at h;cases h
      |true=>
       rw[hb]at h
       simp only[cond_true]at h
       obtain⟨g1,g2⟩:=hM.st _ _ _ _ _ _ h
       simp only[Bool.and_eq_true]at hb
       obtain⟨⟨⟨⟨b1,b2⟩,b3⟩,b4⟩,b5⟩:=hb
       unfold evOp
       rw[ho]
       simp only[h1,h2,Option.bind_some]
       unfold storeE; simp only[hk,b1,b2,b3,b4,b5,ble_eq_of g1,Bool.and_self,cond_true]; exact g2
     ·cases h
   |slice a n c=>cases h
   |_=>cases hl
 ·rename_i xs ts ho
  obtain⟨vs,h1,h⟩:=bind_some' h
  split at h
  ·rename_i s ad m cx t t' hts; cases hl:(limOf s M.lim || M.lim ad.block) with
   |false=>rw[hl]at h;exact h
   |true=>
    rw[hl]at h
    have:=appendM_sound (cx:=cx) hM h
    unfold evOp
    rw[ho]
    simp only[h1,Option.bind_some,hts]
    exact this
  ·exact h
 ·simp only[splitV_eq]at h
  exact h
 ·exact h
def evAny {R:Type} (C:Cx) (cal:Cal R) (lo:Nat) (e:Env) (H:AH) (o:Oper) (k:Value→AH→Option R):Option R:=
 match o.op with
 |.call { callee:=.value x,args:=xs,argTypes:=_ }=>(opd e x).bind fun fv=>(opds e xs.toList).bind fun vs=>
   match fv with
   |.func (.func f) ⟨as⟩ ⟨bs⟩=>callE C cal lo f (as++vs++bs) H k
   |_=>none
 |.call { callee:=.invoke x name,args:=xs,argTypes:=_ }=>(opd e x).bind fun iv=>(opds e xs.toList).bind fun vs=>
   match iv with
   |.iface t v=>
    match C.meths t name with
    |some f=>callE C cal lo f (v::vs) H k
    |none=>none
   |_=>none
 |_=>match C.mm with
  |none=>evOp C.nn C.fi C.P lo e H o k
  |some M=>evM M C lo e H o k
def OpWp (P:Program) (lo:Nat) (o:Oper) (a:Act) (ρ:Map) (H:AH) (w:World) (v:Value) (H':AH):Prop:=
 ∀(K:Act→World→Prop) (Q:Exit→Act→World→Prop),(∀ ρ' w' v',Next lo ρ H w ρ' H' w'→VRel ρ' v v'→K (a.put o.dst v') w')→o.wp P a w K Q
theorem OpWp.ofDone {P:Program} {lo:Nat} {o:Oper} {a:Act} {ρ:Map} {H:AH} {w:World} {v:Value} {H':AH} (h:Done P lo o a ρ H w v H'):OpWp P lo o a ρ H w v H':=by
 intro K Q hK
 obtain⟨ρ',w',v',n,h1,h2,h3,h4⟩:=h
 unfold Oper.wp
 rw[h1]
 rcases h2 with rfl|⟨rfl,rfl⟩
 ·exact hK ρ' w' v' h3 h4
 ·exact hK ρ' w' undef h3 h4
theorem OpWp.ofCall {P:Program} {lo:Nat} {o:Oper} {a:Act} {ρ:Map} {H:AH} {w:World} {v:Value} {H':AH} (hi:Inv ρ H w) {s:Sem Go.Next} (hs:(execOp a.eval o).run P w=s.run P w)
  (h:CallDone P lo s ρ H w v H'):OpWp P lo o a ρ H w v H':=by
 intro K Q hK; unfold Oper.wp
 rw[hs]
 rcases h with ⟨v',h1,h2,rfl⟩|⟨f,args',h1,h2⟩
 ·rw[h1]
  exact hK ρ w v' (Next.refl hi) h2
 ·rw[h1]
  refine h2.mono ?_
  rintro e w' ⟨ρ',v',rfl,g1,g2⟩
  exact hK ρ' w' v' g2 g1
theorem evAny_sound {R:Type} {C:Cx} {cal:Cal R} (hC:C.Ok) (hcal:CalOk C.P cal) {lo:Nat} {e:Env} {H:AH} {o:Oper} {k:Value→AH→Option R} {r:R}
  (h:evAny C cal lo e H o k=some r):
  ∃ v H',k v H'=some r∧∀{ρ:Map} {w:World} {a:Act},Inv ρ H w→lo≤H.next→EnvRel ρ e a.tmps→OpWp C.P lo o a ρ H w v H':=by
 unfold evAny at h; split at h
 ·rename_i x xs ts ho
  obtain⟨fv,h1,h⟩:=bind_some' h
  obtain⟨vs,h2,h⟩:=bind_some' h
  split at h
  ·rename_i f as bs
   obtain⟨v,H',g1,g2⟩:=callE_sound hC hcal h
   refine⟨v,H',g1,fun{ρ w a} hi hlo he=>?_⟩
   have hx:=opd_rel he h1; generalize hex:a.eval x=x' at hx; cases hx with
   |func _ h3 h4=>
    rename_i as' bs'; refine OpWp.ofCall hi ?_ (g2 hi hlo ((h3.append (opds_rel he h2)).append h4)); have e1:xs.map a.eval=⟨xs.toList.map a.eval⟩:=by apply Array.ext';simp
    simp only[execOp,ho,resolve,hex,Deferred.ofValue,Sem.run_bind,Sem.run_pure,Result.andThen_ok,invoke,e1]
    simp
  ·cases h
 ·rename_i x name xs ts ho
  obtain⟨iv,h1,h⟩:=bind_some' h
  obtain⟨vs,h2,h⟩:=bind_some' h
  cases iv with
  |iface t v=>
   simp only at h; cases hm:C.meths t name with
   |none=>rw[hm]at h;cases h
   |some f=>
    rw[hm]at h
    simp only at h
    obtain⟨v2,H',g1,g2⟩:=callE_sound hC hcal h
    refine⟨v2,H',g1,fun{ρ w a} hi hlo he=>?_⟩
    have hx:=opd_rel he h1; generalize hex:a.eval x=x' at hx; cases hx with
    |iface _ h3=>
     rename_i v'; refine OpWp.ofCall hi ?_ (g2 hi hlo (.cons h3 (opds_rel he h2))); have e1:xs.map a.eval=⟨xs.toList.map a.eval⟩:=by apply Array.ext';simp
     simp only[execOp,ho,resolve,hex,Sem.run_bind,Sem.run_pure,Result.andThen_ok,invoke,e1]
     have e2:List.take xs.size (List.map a.eval xs.toList)=List.map a.eval xs.toList:=List.take_of_length_le (by simp); simp[callMethod,hC.meths t name f hm,e2]
  |_=>cases h
 ·have h:evOp C.nn C.fi C.P lo e H o k=some r:=by
   split at h
   ·exact h
   ·rename_i M hM; exact evM_evOp (hC.mm M hM) h
  obtain⟨v,H',g1,g2⟩:=evOp_sound (lo:=lo) hC.fair h
  exact⟨v,H',g1,fun hi hlo he=>OpWp.ofDone (g2 hi hlo he)⟩
end Go.Vm
