/- A part of the evaluator and of what is told of floats; no conditions. -/
import Derived.Test.YtaogignikkjkjaaGreatVmFF
import Derived.IntWalk
set_option linter.unusedSimpArgs false
set_option linter.unusedVariables false
set_option linter.unusedSectionVars false
set_option maxRecDepth 1000000
namespace Go.Vm
def opds (e:Env):List Operand→Option (List Value)
 |[]=>some []
 |x::r=>(opd e x).bind fun v=>(opds e r).bind fun vs=>some (v::vs)
theorem opds_rel {ρ:Map} {e:Env} {a:Act} (he:EnvRel ρ e a.tmps):∀{xs:List Operand} {vs:List Value},opds e xs=some vs→VRels ρ vs (xs.map a.eval)
 |[],vs,h=>by simp[opds]at h;subst h;exact .nil
 |x::r,vs,h=>by
  obtain⟨v,h1,h⟩:=bind_some' h
  obtain⟨us,h2,h⟩:=bind_some' h
  cases h
  exact .cons (opd_rel he h1) (opds_rel he h2)
def notSelect:Op→Bool
 |.select ..=>false
 |_=>true
def calmOp {R:Type} (P:Program) (e:Env) (H:AH) (o:Oper) (k:Value→AH→Option R):Option R:=
 (opds e o.op.operands.toList).bind fun vs=>
  bif inns 0 vs && notSelect o.op then
   match calm P (execOp (fun x=>(opd e x).getD undef) o) with
   |some (.value v)=>bif flat v then k v H else none
   |_=>none
  else none
theorem opds_mem {e:Env}:∀{xs:List Operand} {vs:List Value},opds e xs=some vs→∀ x∈xs,∃ v,opd e x=some v∧v∈vs
 |[],_,_,x,hx=>by simp at hx
 |y::r,vs,h,x,hx=>by
  obtain⟨v,h1,h⟩:=bind_some' h
  obtain⟨us,h2,h⟩:=bind_some' h
  cases h
  rcases List.mem_cons.1 hx with rfl|hx
  ·exact⟨v,h1,by simp⟩
  ·obtain⟨u,g1,g2⟩:=opds_mem h2 x hx
   exact⟨u,g1,by simp[g2]⟩
theorem inns_mem {n:Nat}:∀{vs:List Value},inns n vs=true→∀ v∈vs,inn n v=true
 |[],_,v,hv=>by simp at hv
 |u::r,h,v,hv=>by
  simp only[inns,Bool.and_eq_true]at h
  rcases List.mem_cons.1 hv with rfl|hv
  ·exact h.1
  ·exact inns_mem h.2 v hv
theorem calmOp_sound {R:Type} {P:Program} {lo:Nat} {e:Env} {H:AH} {o:Oper} {k:Value→AH→Option R} {r:R} (h:calmOp P e H o k=some r):
  ∃ v H',k v H'=some r∧∀{ρ:Map} {w:World} {a:Act},Inv ρ H w→lo≤H.next→EnvRel ρ e a.tmps→Done P lo o a ρ H w v H':=by
 unfold calmOp at h
 obtain⟨vs,h1,h⟩:=bind_some' h
 cases hc:(inns 0 vs && notSelect o.op) with
 |false=>rw[hc]at h;cases h
 |true=>
  rw[hc]at h
  simp only[cond_true]at h
  simp only[Bool.and_eq_true]at hc
  split at h
  ·rename_i v hcalm; cases hf:flat v with
   |false=>rw[hf]at h;cases h
   |true=>
    rw[hf]at h
    simp only[cond_true]at h
    refine⟨v,H,h,fun{ρ w a} hi _ he=>?_⟩
    have hcong:execOp a.eval o=execOp (fun x=>(opd e x).getD undef) o:=by
     refine execOp_congr o (fun cs b e=>?_) fun x hx=>?_
     ·rw[e]at hc;simp[notSelect]at hc
     ·obtain⟨u,g1,g2⟩:=opds_mem h1 x (by simpa using hx)
      have:=(opd_rel he g1).flat_eq (inns_mem hc.1 u g2)
      simp[g1,this]
    exact Done.calm hi (by rw[hcong];exact calm_run hcalm w) (VRel.ofFlat ρ hf)
  ·cases h
def fcmp (op:BinOp) (x y:Nat):Option Bool:=
 match op with
 |.eql=>some (ordW x y == some .eq)
 |.neq=>some (ordW x y != some .eq)
 |.lss=>some (ordW x y == some .lt)
 |.leq=>some (ordW x y == some .lt || ordW x y == some .eq)
 |.gtr=>some (ordW x y == some .gt)
 |.geq=>some (ordW x y == some .gt || ordW x y == some .eq)
 |_=>none
def icmp (op:BinOp) (x y:Int):Option Bool:=
 match op with
 |.eql=>some (x == y)
 |.neq=>some (x != y)
 |.lss=>some (decide (x<y))
 |.leq=>some (decide (x≤y))
 |.gtr=>some (decide (x > y))
 |.geq=>some (decide (x ≥ y))
 |_=>none
def iarith (op:BinOp) (k:IntKind) (x y:Int):Option Int:=
 match op with
 |.add=>some (k.wrap (x+y))
 |.sub=>some (k.wrap (x-y))
 |.mul=>some (k.wrap (x*y))
 |.rem=>bif y == 0 then none else some (x.tmod y)
 |.quo=>bif y == 0 then none else some (k.wrap (x.tdiv y))
 |_=>none
def isArith:BinOp→Bool
 |.add | .sub | .mul | .quo=>true
 |_=>false
def isCmp:BinOp→Bool
 |.eql | .neq | .lss | .leq | .gtr | .geq=>true
 |_=>false
def binE {R:Type} (fi:Fi) (op:BinOp) (x y:Value) (k:Value→Option R) (other:Option R):Option R:=
 match x,y with
 |.float .f64 a,.float .f64 b=>
  bif isArith op then bindF (fbF op a b) fun n=>k (.float .f64 n)
  else (fcmp op a b).bind fun t=>forceB t fun t=>k (.bool t)
 |.int ka a,.int kb b=>
  bif decide (ka=kb) && (isArith op || isCmp op || decide (op=.rem)) then
   bif isCmp op then (icmp op a b).bind fun t=>forceB t fun t=>k (.bool t)
   else (iarith op ka a b).bind fun n=>fi R n fun n=>k (.int ka n)
  else other
 |.complex .f64 a b,.complex .f64 c d=>
  match op with
  |.add | .sub=>bindF (fbF op a c) fun re=>bindF (fbF op b d) fun im=>k (.complex .f64 re im)
  |.eql=>forceB (ordW a c == some .eq) fun s=>forceB (ordW b d == some .eq) fun t=>k (.bool (s && t))
  |.neq=>forceB (ordW a c == some .eq) fun s=>forceB (ordW b d == some .eq) fun t=>k (.bool !(s && t))
  |_=>other
 |_,_=>other
theorem eqGuard_num {P:Program} {w:World} {op:BinOp} {t:TypeId} {x y:Operand} {u v:Value}
  (hu:(match u with | .nilIface | .agg _=>false|_=>true)=true):(eqGuard op t x y u v).run P w=.ok () w:=by
 cases u<;>simp only[Bool.false_eq_true]at hu<;>(unfold eqGuard;cases op<;>rfl)
theorem run_int_arith {P:Program} {w:World} {op:BinOp} {t:TypeId} {k:IntKind} {x y n:Int} (h:iarith op k x y=some n):
  (binOp op t (.int k x) (.int k y)).run P w=.ok (.int k n) w:=by
 unfold iarith at h; split at h
 ·cases h;simp[binOp,Op.intArith]
 ·cases h;simp[binOp,Op.intArith]
 ·cases h;simp[binOp,Op.intArith]
 ·cases hy:(y == 0) with
  |true=>rw[hy]at h;cases h
  |false=>
   rw[hy]at h
   cases h
   have:y≠0:=by simpa using hy
   simp[binOp,Op.intDiv,this]
 ·cases hy:(y == 0) with
  |true=>rw[hy]at h;cases h
  |false=>
   rw[hy]at h
   cases h
   have:y≠0:=by simpa using hy
   simp[binOp,Op.intDiv,this]
 ·cases h
theorem run_int_cmp {P:Program} {w:World} {op:BinOp} {t:TypeId} {k:IntKind} {x y:Int} {n:Bool} (h:icmp op x y=some n):
  (binOp op t (.int k x) (.int k y)).run P w=.ok (.bool n) w:=by
 unfold icmp at h; split at h<;>first|(cases h;simp[binOp,Op.intCmp];done)|cases h
theorem run_complex_eql {P:Program} (w:World) (t:TypeId) (a b c d:Nat):
  (binOp .eql t (.complex .f64 a b) (.complex .f64 c d)).run P w=.ok (.bool ((ordW a c == some .eq) && (ordW b d == some .eq))) w:=by
 rw[ordW_eq,ordW_eq]
 simp[binOp,Op.complexOp,Op.Complex.cmp,Op.floatCmp,asBool]
 rfl
theorem run_complex_neq {P:Program} (w:World) (t:TypeId) (a b c d:Nat):
  (binOp .neq t (.complex .f64 a b) (.complex .f64 c d)).run P w=.ok (.bool !((ordW a c == some .eq) && (ordW b d == some .eq))) w:=by
 rw[ordW_eq,ordW_eq]
 simp[binOp,Op.complexOp,Op.Complex.cmp,Op.floatCmp,asBool]
 rfl
theorem run_float_cmp {P:Program} {w:World} {op:BinOp} {t:TypeId} {x y:Nat} {n:Bool} (h:fcmp op x y=some n):
  (binOp op t (.float .f64 x) (.float .f64 y)).run P w=.ok (.bool n) w:=by
 unfold fcmp at h; simp only[ordW_eq]at h; split at h<;>first|(cases h;simp[binOp,Op.floatCmp];done)|(cases h;simp only[binOp,Op.floatCmp];rfl)|cases h
theorem binE_sound {R:Type} {P:Program} {op:BinOp} {t:TypeId} {ox oy:Operand} {x y:Value} {k:Value→Option R} {other:Option R} {r:R}
  {fi:Fi} (hfi:fi.Fair) (h:binE fi op x y k other=some r):
  other=some r∨∃ v,k v=some r∧flat v=true∧∀{ρ:Map} {w:World} {x' y':Value},VRel ρ x x'→VRel ρ y y'→((do eqGuard op t ox oy x' y';binOp op t x' y'):Sem Value).run P w=.ok v w:=by
 unfold binE at h; split at h
 ·rename_i a b; cases ha:isArith op with
  |true=>
   rw[ha]at h
   obtain⟨n,h1,h2⟩:=bindF_some h
   refine .inr ⟨_,h2,rfl,fun{ρ w x' y'} hx hy=>?_⟩
   cases hx;cases hy
   rw[Sem.run_bind,eqGuard_num rfl];exact run_float_arith w op t .f64 a b n (by rw[← fbF_eq];exact h1)
  |false=>
   rw[ha]at h
   obtain⟨n,h1,h2⟩:=bind_some' h
   rw[forceB_eq]at h2
   refine .inr ⟨_,h2,rfl,fun{ρ w x' y'} hx hy=>?_⟩
   cases hx;cases hy
   rw[Sem.run_bind,eqGuard_num rfl];exact run_float_cmp h1
 ·rename_i ka a kb b; cases hc:(decide (ka=kb) && (isArith op || isCmp op || decide (op=.rem))) with
  |false=>rw[hc]at h;exact .inl h
  |true=>
   rw[hc]at h
   simp only[Bool.and_eq_true,decide_eq_true_eq]at hc
   obtain⟨rfl,_⟩:=hc
   simp only[cond_true]at h
   cases hcm:isCmp op with
   |true=>
    rw[hcm]at h
    obtain⟨n,h1,h2⟩:=bind_some' h
    rw[forceB_eq]at h2
    refine .inr ⟨_,h2,rfl,fun{ρ w x' y'} hx hy=>?_⟩
    cases hx;cases hy
    rw[Sem.run_bind,eqGuard_num rfl];exact run_int_cmp h1
   |false=>
    rw[hcm]at h
    obtain⟨n,h1,h2⟩:=bind_some' h
    rw[hfi]at h2
    refine .inr ⟨_,h2,rfl,fun{ρ w x' y'} hx hy=>?_⟩
    cases hx;cases hy
    rw[Sem.run_bind,eqGuard_num rfl];exact run_int_arith h1
 ·rename_i a b c d; split at h
  ·obtain⟨n,h1,h⟩:=bindF_some h
   obtain⟨m,h2,h⟩:=bindF_some h
   refine .inr ⟨_,h,rfl,fun{ρ w x' y'} hx hy=>?_⟩
   cases hx;cases hy
   rw[Sem.run_bind,eqGuard_num rfl];exact run_complex_sum w .add (.inl rfl) t .f64 a b c d n m (by rw[fbF_eq]at h1 h2;simp[cSumBits,h1,h2])
  ·obtain⟨n,h1,h⟩:=bindF_some h
   obtain⟨m,h2,h⟩:=bindF_some h
   refine .inr ⟨_,h,rfl,fun{ρ w x' y'} hx hy=>?_⟩
   cases hx;cases hy
   rw[Sem.run_bind,eqGuard_num rfl];exact run_complex_sum w .sub (.inr rfl) t .f64 a b c d n m (by rw[fbF_eq]at h1 h2;simp[cSumBits,h1,h2])
  ·rw[forceB_eq,forceB_eq]at h
   refine .inr ⟨_,h,rfl,fun{ρ w x' y'} hx hy=>?_⟩
   cases hx;cases hy
   rw[Sem.run_bind,eqGuard_num rfl];exact run_complex_eql (P:=P) w t a b c d
  ·rw[forceB_eq,forceB_eq]at h
   refine .inr ⟨_,h,rfl,fun{ρ w x' y'} hx hy=>?_⟩
   cases hx;cases hy
   rw[Sem.run_bind,eqGuard_num rfl];exact run_complex_neq (P:=P) w t a b c d
  ·exact .inl h
 ·exact .inl h
def fillL (place:Nat→Option (Nat×Nat)) (cs:List Value):List (Nat×Value)→Option (List Value)
 |[]=>some cs
 |(i,v)::rest=>
  match place i with
  |none=>none
  |some (off,size)=>
   bif Nat.beq v.cells.toList.length size && Nat.ble (off+v.cells.toList.length) cs.length then fillL place (splice cs off v.cells.toList) rest else none
theorem fill_fold (off:Nat) (cells vs:Array Value) (h:off+vs.size≤cells.size):
  vs.zipIdx.foldl (fun cs (c,j)=>cs.setIfInBounds (off+j) c) cells=⟨splice cells.toList off vs.toList⟩:=by
 apply Array.ext'
 apply List.ext_getElem?
 intro i
 have:(vs.zipIdx.foldl (fun(cs:Array Value) (x:Value×Nat)=>cs.setIfInBounds (off+x.2) x.1) cells)=(vs.toList.zipIdx.foldl (fun a x=>a.setIfInBounds (off+x.2) x.1) cells):=by
  rw[← Array.foldl_toList,Array.toList_zipIdx]
 have e:(vs.zipIdx.foldl (fun cs (c,j)=>cs.setIfInBounds (off+j) c) cells)=(vs.zipIdx.foldl (fun(cs:Array Value) (x:Value×Nat)=>cs.setIfInBounds (off+x.2) x.1) cells):=rfl
 rw[e,this,Array.getElem?_toList,foldl_set_get,splice_get (by simpa using h)]
 simp only[Array.length_toList,Array.getElem?_toList]
 by_cases h1:off≤i∧i<off+vs.size
 ·rw[if_pos (by omega),if_pos h1]
 ·rw[if_neg (by omega),if_neg h1]
inductive PRels (ρ:Map):List (Nat×Value)→List (Nat×Value)→Prop
 |nil:PRels ρ [] []
 |cons (i:Nat) {v v':Value} {r r':List (Nat×Value)} (h:VRel ρ v v') (hs:PRels ρ r r'):PRels ρ ((i,v)::r) ((i,v')::r')
theorem fill_rel {ρ:Map} {place:Nat→Option (Nat×Nat)}:∀{parts parts':List (Nat×Value)} {cs:List Value} {cells':Array Value} {res:List Value},PRels ρ parts parts'→VRels ρ cs cells'.toList→
  fillL place cs parts=some res→∃ res':Array Value,Instr.fill place cells' parts'=some res'∧VRels ρ res res'.toList
 |_,_,cs,cells',res,.nil,hc,h=>by simp[fillL]at h;subst h;exact⟨cells',rfl,hc⟩
 |_,_,cs,cells',res,.cons i (v:=v) (v':=v') hv hs,hc,h=>by
  unfold fillL at h; unfold Instr.fill; cases hp:place i with
  |none=>simp[hp]at h
  |some p=>
   obtain⟨off,size⟩:=p
   simp only[hp]at h ⊢
   cases hb:(Nat.beq v.cells.toList.length size && Nat.ble (off+v.cells.toList.length) cs.length) with
   |false=>rw[hb]at h;cases h
   |true=>
    rw[hb]at h
    simp only[cond_true]at h
    simp only[Bool.and_eq_true,Nat.beq_eq,Nat.ble_eq]at hb
    have h1:=hv.cells; have h2:=h1.length; have h3:=hc.length; have e1:v'.cells.size=size:=by
                       have:v'.cells.toList.length=v'.cells.size:=by simp
                       omega
    have e2:off+v'.cells.size≤cells'.size:=by
     have:cells'.toList.length=cells'.size:=by simp
     have:v'.cells.toList.length=v'.cells.size:=by simp
     omega
    have hno:(decide (v'.cells.size≠size) || decide (off+v'.cells.size > cells'.size))=false:=by simp[e1];omega
    rw[hno]
    simp only[Bool.false_eq_true,if_false]
    rw[fill_fold off cells' v'.cells e2]
    exact fill_rel hs (hc.splice h1 off) h
def partsE (e:Env):List (Nat×Operand)→Option (List (Nat×Value))
 |[]=>some []
 |(i,x)::r=>(opd e x).bind fun v=>(partsE e r).bind fun vs=>some ((i,v)::vs)
theorem partsE_rel {ρ:Map} {e:Env} {a:Act} (he:EnvRel ρ e a.tmps):∀{xs:List (Nat×Operand)} {vs:List (Nat×Value)},partsE e xs=some vs→PRels ρ vs (xs.map fun(i,x)=>(i,a.eval x))
 |[],vs,h=>by simp[partsE]at h;subst h;exact .nil
 |(i,x)::r,vs,h=>by
  obtain⟨v,h1,h⟩:=bind_some' h
  obtain⟨us,h2,h⟩:=bind_some' h
  cases h
  exact .cons i (opd_rel he h1) (partsE_rel he h2)
def placesOf (P:Program) (fields:Array Field):Option (Array (Nat×Nat)):=calm P (fields.mapM fun f=>do pure (f.offset,← sizeOf f.type))
def buildE {R:Type} (P:Program) (t:TypeId) (parts:List (Nat×Value)) (k:Value→Option R):Option R:=
 (calm P (zeroValue t)).bind fun z=>
  bif flat z then
   match P.underlying t with
   |some (.struct fields)=>(placesOf P fields).bind fun places=>(fillL (fun i=>places[i]?) z.cells.toList parts).bind fun cs=>k (.agg ⟨cs⟩)
   |some (.array _ elem)=>(calm P (sizeOf elem)).bind fun size=>(fillL (fun i=>some (i*size,size)) z.cells.toList parts).bind fun cs=>k (.agg ⟨cs⟩)
   |_=>none
  else none
theorem flat_cells {v:Value} (h:flat v=true) (ρ:Map):VRels ρ v.cells.toList v.cells.toList:=(VRel.ofFlat ρ h).cells
theorem buildE_sound {R:Type} {P:Program} {t:TypeId} {parts:List (Nat×Value)} {k:Value→Option R} {r:R} (h:buildE P t parts k=some r):
  ∃ v,k v=some r∧∀{ρ:Map} {w:World} {parts':List (Nat×Value)},PRels ρ parts parts'→∃ v',(Instr.build t parts'.toArray).run P w=.ok v' w∧VRel ρ v v':=by
 unfold buildE at h
 obtain⟨z,h1,h⟩:=bind_some' h
 cases hf:flat z with
 |false=>rw[hf]at h;cases h
 |true=>
  rw[hf]at h
  simp only[cond_true]at h
  have hz:=calm_run h1; split at h
  ·rename_i fields hu
   obtain⟨places,h2,h⟩:=bind_some' h
   obtain⟨cs,h3,h⟩:=bind_some' h
   refine⟨_,h,fun{ρ w parts'} hp=>?_⟩
   obtain⟨res',g1,g2⟩:=fill_rel hp (flat_cells hf ρ) h3
   obtain⟨l⟩:=res'
   have hpl:=calm_run (show calm P (fields.mapM fun f=>do pure (f.offset,← sizeOf f.type))=some places from h2)
   refine⟨.agg ⟨l⟩,?_,.agg g2⟩
   unfold Instr.build; simp only[Sem.run_bind,hz,run_underlying hu,hpl,Result.andThen_ok,g1,Sem.run_pure]
  ·rename_i n elem hu
   obtain⟨size,h2,h⟩:=bind_some' h
   obtain⟨cs,h3,h⟩:=bind_some' h
   refine⟨_,h,fun{ρ w parts'} hp=>?_⟩
   obtain⟨res',g1,g2⟩:=fill_rel hp (flat_cells hf ρ) h3
   obtain⟨l⟩:=res'
   refine⟨.agg ⟨l⟩,?_,.agg g2⟩
   unfold Instr.build; simp only[Sem.run_bind,hz,run_underlying hu,calm_run h2,Result.andThen_ok,g1,Sem.run_pure]
  ·cases h
theorem Done.value {P:Program} {lo:Nat} {o:Oper} {a:Act} {ρ ρ':Map} {H H':AH} {w w':World} {v v':Value}
  (hr:(execOp a.eval o).run P w=.ok (.value v') w') (hn:Next lo ρ H w ρ' H' w') (hv:VRel ρ' v v'):Done P lo o a ρ H w v H':=
 ⟨ρ',w',v',_,hr,.inl rfl,hn,hv⟩
theorem Done.skip {P:Program} {lo:Nat} {o:Oper} {a:Act} {ρ ρ':Map} {H H':AH} {w w':World}
  (hr:(execOp a.eval o).run P w=.ok .skip w') (hn:Next lo ρ H w ρ' H' w'):Done P lo o a ρ H w undef H':=
 ⟨ρ',w',undef,_,hr,.inr ⟨rfl,rfl⟩,hn,.tuple .nil⟩
theorem alloc_cells {P:Program} {lo:Nat} {ρ:Map} {H:AH} {w:World} (hi:Inv ρ H w) (hlo:lo≤H.next) {cs:List Value} {arr:Array Value} (hc:VRels ρ cs arr.toList) (t:TypeId):
  Next lo ρ H w (upd ρ H.next ⟨w.heap.size,0,0⟩) (H.push (.cells cs 0)) (w.alloc (.cells arr t)):=by
 refine Next.alloc hi hlo _ _ 0 ⟨arr,t,arr.toList,?_,hc.mono (upd_ext hi _),fun i v hv=>by simpa using hv,?_,fun _=>rfl⟩
 ·refine Lies.fresh ?_ _ _
  show (w.heap.push _)[w.heap.size]?=_; simp
 ·have:=hc.length
  simp at this ⊢
  omega
def newE {R:Type} (H:AH) (cs:List Value) (k:Value→AH→Option R):Option R:=
 k (.pointer (some ⟨H.next,0,none⟩)) (H.push (.cells cs 0))
def allocE {R:Type} (P:Program) (H:AH) (t:TypeId) (k:Value→AH→Option R):Option R:=
 (calm P (zeroValue t)).bind fun z=>bif flat z then newE H z.cells.toList k else none
theorem ptr_new {ρ:Map} {H:AH} {n x:Nat}:VRel (upd ρ H.next ⟨n,0,x⟩) (.pointer (some ⟨H.next,0,none⟩)) (.pointer (some ⟨n,0,none⟩)):=
 VRel.ptr (s:=⟨n,0,x⟩) (o:=0) (upd_same _ _ _)
theorem allocE_sound {R:Type} {P:Program} {lo:Nat} {H:AH} {t:TypeId} {k:Value→AH→Option R} {r:R} (h:allocE P H t k=some r)
  {o:Oper} (ho:o.op=.alloc t):∃ v H',k v H'=some r∧∀{ρ:Map} {w:World} {a:Act},Inv ρ H w→lo≤H.next→Done P lo o a ρ H w v H':=by
 unfold allocE at h
 obtain⟨z,h1,h⟩:=bind_some' h
 cases hf:flat z with
 |false=>rw[hf]at h;cases h
 |true=>
  rw[hf]at h
  refine⟨_,_,h,fun{ρ w a} hi hlo=>Done.value ?_ (alloc_cells (P:=P) hi hlo (flat_cells hf ρ) t) ptr_new⟩
  simp[execOp,ho,Instr.alloc,newVar,newRow,calm_run h1]
theorem boxE_sound {R:Type} {P:Program} {lo:Nat} {H:AH} {t:TypeId} {x:Operand} {v:Value} {k:Value→AH→Option R} {r:R} (h:newE H v.cells.toList k=some r)
  {o:Oper} (ho:o.op=.box t x):∃ u H',k u H'=some r∧∀{ρ:Map} {w:World} {a:Act},Inv ρ H w→lo≤H.next→VRel ρ v (a.eval x)→Done P lo o a ρ H w u H':=by
 refine⟨_,_,h,fun{ρ w a} hi hlo hv=>Done.value ?_ (alloc_cells (P:=P) hi hlo hv.cells t) ptr_new⟩
 simp[execOp,ho,Instr.box,newVar,newRow]
def repeatE (z:List Value) (n:Nat):List Value:=(List.range n).map fun i=>z.getD (i % z.length) default
theorem repeat_eq (z:Array Value) (n:Nat):((Array.range n).map fun i=>z[i % z.size]!).toList=repeatE z.toList n:=by
 unfold repeatE; simp[Array.getElem!_eq_getD,List.getD_eq_getElem?_getD]
theorem VRels.replicate {ρ:Map} {z:List Value} (hz:VRels ρ z z) (n:Nat):VRels ρ (repeatE z n) (repeatE z n):=by
 unfold repeatE; generalize List.range n=l; induction l with
 |nil=>exact .nil
 |cons i r ih=>
  refine .cons ?_ ih
  show VRel ρ (z.getD (i % z.length) default) (z.getD (i % z.length) default)
  rw[List.getD_eq_getElem?_getD]
  cases hq:z[i % z.length]? with
  |none=>exact .bool _
  |some v=>
   obtain⟨v',h1,h2⟩:=hz.get _ hq
   rw[hq]at h1
   cases h1
   exact h2
def buildSliceE {R:Type} (P:Program) (H:AH) (t:TypeId) (len:Nat) (parts:List (Nat×Value)) (k:Value→AH→Option R):Option R:=
 match P.underlying t with
 |some (.slice elem)=>
  (calm P (sizeOf elem)).bind fun size=>(calm P (zeroValue elem)).bind fun z=>
   bif flat z && Nat.ble (len*size) 16777216 && !Nat.beq (len*size) 0 then
    (fillL (fun i=>some (i*size,size)) (repeatE z.cells.toList (len*size)) parts).bind fun cs=>
     k (.slice (some ⟨H.next,0,none⟩) len len) (H.push (.cells cs 0))
   else none
 |_=>none
theorem slice_new {ρ:Map} {H:AH} {n l:Nat}:VRel (upd ρ H.next ⟨n,0,0⟩) (.slice (some ⟨H.next,0,none⟩) l l) (.slice (some ⟨n,0,none⟩) l l):=
 VRel.slice (s:=⟨n,0,0⟩) (o:=0) (upd_same _ _ _)
theorem buildSliceE_sound {R:Type} {P:Program} {lo:Nat} {H:AH} {t:TypeId} {len:Nat} {xs:Array (Nat×Operand)} {parts:List (Nat×Value)} {k:Value→AH→Option R} {r:R}
  (h:buildSliceE P H t len parts k=some r) {o:Oper} (ho:o.op=.buildSlice t len xs):
  ∃ v H',k v H'=some r∧∀{ρ:Map} {w:World} {a:Act},Inv ρ H w→lo≤H.next→PRels ρ parts (xs.toList.map fun(i,x)=>(i,a.eval x))→Done P lo o a ρ H w v H':=by
 unfold buildSliceE at h; split at h
 ·rename_i elem hu
  obtain⟨size,h1,h⟩:=bind_some' h
  obtain⟨z,h2,h⟩:=bind_some' h
  cases hc:(flat z && Nat.ble (len*size) 16777216 && !Nat.beq (len*size) 0) with
  |false=>rw[hc]at h;cases h
  |true=>
   rw[hc]at h
   simp only[cond_true]at h
   obtain⟨cs,h3,h⟩:=bind_some' h
   simp only[Bool.and_eq_true,Nat.ble_eq,Bool.not_eq_true']at hc
   obtain⟨⟨hf,hb⟩,hz⟩:=hc
   have hz':len*size≠0:=fun e=>by rw[e]at hz;cases hz
   refine⟨_,_,h,fun{ρ w a} hi hlo hp=>?_⟩
   have hzc:=flat_cells hf ρ
   obtain⟨res',g1,g2⟩:=fill_rel (cells':=(Array.range (len*size)).map fun i=>z.cells[i % z.cells.size]!) hp (by rw[repeat_eq];exact VRels.replicate hzc _) h3
   refine Done.value ?_ (alloc_cells (P:=P) hi hlo g2 elem) slice_new
   have e1:(xs.map fun(i,x)=>(i,a.eval x)).toList=xs.toList.map fun(i,x)=>(i,a.eval x):=by simp
   simp only[execOp,ho,Instr.buildSlice,Sem.run_bind,run_underlying hu,Result.andThen_ok,calm_run h1,calm_run h2]
   rw[if_neg (by have:=Nat.pow_le_pow_right (n:=2) (by decide) (Nat.le_refl 24);omega),if_neg hz']
   simp only[Sem.run_bind,calm_run h2,Result.andThen_ok,Sem.run_pure,e1,g1,newRow,run_newObj]
   rfl
 ·cases h
theorem wrap64_in {n:Int} (h1:-9223372036854775808≤n) (h2:n≤9223372036854775807):IntKind.i64.wrap n=n:=IntWalk.i64_in n ⟨by omega,by omega⟩
def makeSliceE {R:Type} (P:Program) (H:AH) (t:TypeId) (l c:Value) (k:Value→AH→Option R):Option R:=
 match P.underlying t,l,c with
 |some (.slice elem),.int _ l,.int _ c=>
  (calm P (typeInfo elem)).bind fun info=>(calm P (sizeOf elem)).bind fun size=>(calm P (zeroValue elem)).bind fun z=>
   bif flat z && decide (0≤l) && decide (l≤c) && decide (c≤4294967296) && decide (info.bytes*c≤281474976710656) && !Nat.beq (c.toNat*size) 0 then
    k (.slice (some ⟨H.next,0,none⟩) l.toNat c.toNat) (H.push (.cells (repeatE z.cells.toList (c.toNat*size)) 0))
   else none
 |_,_,_=>none
theorem makeSliceE_sound {R:Type} {P:Program} {lo:Nat} {H:AH} {t:TypeId} {xl xc:Operand} {l c:Value} {k:Value→AH→Option R} {r:R}
  (h:makeSliceE P H t l c k=some r) {o:Oper} (ho:o.op=.makeSlice t xl xc):
  ∃ v H',k v H'=some r∧∀{ρ:Map} {w:World} {a:Act},Inv ρ H w→lo≤H.next→VRel ρ l (a.eval xl)→VRel ρ c (a.eval xc)→Done P lo o a ρ H w v H':=by
 unfold makeSliceE at h; split at h
 ·rename_i elem kl l kc c hu
  obtain⟨info,h0,h⟩:=bind_some' h
  obtain⟨size,h1,h⟩:=bind_some' h
  obtain⟨z,h2,h⟩:=bind_some' h
  cases hc:(flat z && decide (0≤l) && decide (l≤c) && decide (c≤4294967296) && decide (info.bytes*c≤281474976710656) && !Nat.beq (c.toNat*size) 0) with
  |false=>rw[hc]at h;cases h
  |true=>
   rw[hc]at h
   simp only[cond_true]at h
   simp only[Bool.and_eq_true,decide_eq_true_eq,Bool.not_eq_true']at hc
   obtain⟨⟨⟨⟨⟨hf,g1⟩,g2⟩,g3⟩,g4⟩,hz⟩:=hc
   have hz':c.toNat*size≠0:=fun e=>by rw[e]at hz;cases hz
   refine⟨_,_,h,fun{ρ w a} hi hlo hl hcp=>?_⟩
   have hnew:=alloc_cells (P:=P) (lo:=lo) (arr:=(Array.range (c.toNat*size)).map fun i=>z.cells[i % z.cells.size]!) (cs:=repeatE z.cells.toList (c.toNat*size)) hi hlo
    (by rw[repeat_eq];exact VRels.replicate (flat_cells hf ρ) _) elem
   refine Done.value ?_ hnew (VRel.slice (s:=⟨w.heap.size,0,0⟩) (o:=0) (upd_same _ _ _))
   generalize hel:a.eval xl=l' at *
   generalize hec:a.eval xc=c' at *
   cases hl;cases hcp
   simp only[execOp,ho,Instr.makeSlice,hel,hec,Sem.run_bind,run_underlying hu,Result.andThen_ok,asInt,asIntOf,Sem.run_pure,calm_run h0,calm_run h1,calm_run h2,
    wrap64_in (n:=l) (by omega) (by omega),wrap64_in (n:=c) (by omega) (by omega)]
   have t1:(decide (c<0) || decide ((info.bytes:Int)*c > 2^48))=false:=by
    simp only[Bool.or_eq_false_iff,decide_eq_false_iff_not];omega
   have t2:((decide (c<0) || decide ((info.bytes:Int)*c > 2^48)) || decide (l<0) || decide (l > c))=false:=by
    rw[t1];simp only[Bool.false_or,Bool.or_eq_false_iff,decide_eq_false_iff_not];omega
   rw[t2]
   simp only[Bool.false_eq_true,if_false,Sem.run_bind,run_askRoom,Result.andThen_ok,calm_run h1,if_neg hz',calm_run h2,Sem.run_pure,newRow,run_newObj]
   rfl
 ·cases h
def fieldAddrE {R:Type} (P:Program) (s:TypeId) (x:Value) (f:Nat) (k:Value→Option R):Option R:=
 match x,P.underlying s with
 |.pointer (some ad),some (.struct fields)=>
  match fields[f]? with
  |some fd=>(calm P (sizeOf fd.type)).bind fun n=>bif !Nat.beq n 0 && ad.spot.isNone then k (.pointer (some ⟨ad.block,ad.off+fd.offset,none⟩)) else none
  |none=>none
 |_,_=>none
theorem add_none (b o n:Nat):(⟨b,o,none⟩:Addr).add n=⟨b,o+n,none⟩:=by unfold Addr.add;split<;>simp_all
theorem fieldAddrE_sound {R:Type} {P:Program} {lo:Nat} {H:AH} {s:TypeId} {x:Value} {xo:Operand} {f:Nat} {k:Value→Option R} {r:R} (h:fieldAddrE P s x f k=some r)
  {o:Oper} (ho:o.op=.fieldAddr s xo f):∃ v,k v=some r∧∀{ρ:Map} {w:World} {a:Act},Inv ρ H w→VRel ρ x (a.eval xo)→Done P lo o a ρ H w v H:=by
 unfold fieldAddrE at h; split at h
 ·rename_i ad fields hu; split at h
  ·rename_i fd hfd
   obtain⟨n,h1,h⟩:=bind_some' h
   cases hc:(!Nat.beq n 0 && ad.spot.isNone) with
   |false=>rw[hc]at h;cases h
   |true=>
    rw[hc]at h
    simp only[cond_true]at h
    simp only[Bool.and_eq_true,Bool.not_eq_true']at hc
    have hn:n≠0:=fun e=>by rw[e]at hc;cases hc.1
    refine⟨_,h,fun{ρ w a} hi hx=>?_⟩
    generalize he:a.eval xo=x' at *
    cases hx with
    |ptr hk=>
     rename_i kb off sp; refine Done.value (w':=w) ?_ (Next.refl hi) (VRel.ptr hk); simp only[execOp,ho,he,Instr.fieldAt,Instr.sureAddr,fieldPlace,Sem.run_bind,run_underlying hu,Result.andThen_ok,hfd,Sem.run_pure,calm_run h1]; simp[hn,add_none,Nat.add_assoc]
  ·cases h
 ·cases h
def indexAddrE {R:Type} (P:Program) (t:TypeId) (x i:Value) (k:Value→Option R):Option R:=
 match P.underlying t,x,i with
 |some (.array len elem),.pointer (some ad),.int _ i=>
  bif decide (0≤i) && decide (i<len) && ad.spot.isNone then (calm P (sizeOf elem)).bind fun n=>k (.pointer (some ⟨ad.block,ad.off+i.toNat*n,none⟩)) else none
 |some (.slice elem),.slice (some ad) len _,.int _ i=>
  bif decide (0≤i) && decide (i<len) && ad.spot.isNone then (calm P (sizeOf elem)).bind fun n=>k (.pointer (some ⟨ad.block,ad.off+i.toNat*n,none⟩)) else none
 |_,_,_=>none
theorem indexAddrE_sound {R:Type} {P:Program} {lo:Nat} {H:AH} {t:TypeId} {x i:Value} {xo io:Operand} {k:Value→Option R} {r:R} (h:indexAddrE P t x i k=some r)
  {o:Oper} (ho:o.op=.indexAddr t xo io):∃ v,k v=some r∧∀{ρ:Map} {w:World} {a:Act},Inv ρ H w→VRel ρ x (a.eval xo)→VRel ρ i (a.eval io)→Done P lo o a ρ H w v H:=by
 unfold indexAddrE at h; split at h
 ·rename_i len elem ad kk i hu; cases hc:(decide (0≤i) && decide (i<(len:Int)) && ad.spot.isNone) with
  |false=>rw[hc]at h;cases h
  |true=>
   rw[hc]at h
   simp only[cond_true]at h
   simp only[Bool.and_eq_true,decide_eq_true_eq]at hc
   obtain⟨n,h1,h⟩:=bind_some' h
   refine⟨_,h,fun{ρ w a} hi hx hy=>?_⟩
   generalize he:a.eval xo=x' at *
   generalize he2:a.eval io=i' at *
   cases hx with
   |ptr hk=>
    cases hy
    refine Done.value (w':=w) ?_ (Next.refl hi) (VRel.ptr hk)
    simp only[execOp,ho,he,he2,Instr.indexAt,Instr.sureAddr,asIntOf,Sem.run_bind,run_underlying hu,Result.andThen_ok,Sem.run_pure,calm_run h1]
    rw[if_pos hc.1]
    simp[calm_run h1,add_none,Nat.add_assoc]
 ·rename_i elem ad len cap kk i hu; cases hc:(decide (0≤i) && decide (i<(len:Int)) && ad.spot.isNone) with
  |false=>rw[hc]at h;cases h
  |true=>
   rw[hc]at h
   simp only[cond_true]at h
   simp only[Bool.and_eq_true,decide_eq_true_eq]at hc
   obtain⟨n,h1,h⟩:=bind_some' h
   refine⟨_,h,fun{ρ w a} hi hx hy=>?_⟩
   generalize he:a.eval xo=x' at *
   generalize he2:a.eval io=i' at *
   cases hx with
   |slice hk=>
    cases hy
    refine Done.value (w':=w) ?_ (Next.refl hi) (VRel.ptr hk)
    simp only[execOp,ho,he,he2,Instr.indexAt,asIntOf,Sem.run_bind,run_underlying hu,Result.andThen_ok,Sem.run_pure]
    rw[if_pos hc.1]
    simp[calm_run h1,add_none,Nat.add_assoc]
 ·cases h
def boundE (x:Option Value) (dflt:Nat) (most:Nat):Option Nat:=
 match x with
 |none=>some dflt
 |some (.int _ i)=>bif decide (0≤i) && decide (i≤most) then some i.toNat else none
 |_=>none
def sliceE {R:Type} (P:Program) (H:AH) (t:TypeId) (x:Value) (lo hi:Option Value) (k:Value→AH→Option R):Option R:=
 match P.underlying t,x with
 |some (.slice elem),.slice (some ad) n c=>
  (boundE hi n c).bind fun h=>(boundE lo 0 h).bind fun l=>(calm P (sizeOf elem)).bind fun size=>
   bif (Nat.blt l c || Nat.beq l 0) && Nat.ble l c && ad.spot.isNone then k (.slice (some ⟨ad.block,ad.off+l*size,none⟩) (h-l) (c-l)) H
   else bif Nat.beq l c && Nat.beq h l && ad.spot.isNone then k (.slice (some ⟨H.next,0,none⟩) 0 0) ⟨H.next+1,H.objs⟩ else none
 |some (.slice elem),.slice none n c=>
  (boundE hi n c).bind fun h=>(boundE lo 0 h).bind fun l=>(calm P (sizeOf elem)).bind fun size=>k (.slice none (h-l) (c-l)) H
 |_,_=>none
inductive ORel (ρ:Map):Option Value→Option Value→Prop
 |none:ORel ρ none none
 |some {v v':Value} (h:VRel ρ v v'):ORel ρ (some v) (some v')
theorem bound_run {P:Program} {ρ:Map} {w:World} {v v':Value} {dflt most most' n:Nat} (hv:VRel ρ v v') (hm:most≤most') (h:boundE (some v) dflt most=some n) (code:BoundsCode):
  (Instr.sliceBound v' most' code).run P w=.ok n w:=by
 unfold boundE at h; split at h
 ·cases ‹some v=none›
 ·rename_i kk i e; cases e; cases hv; cases hc:(decide (0≤i) && decide (i≤(most:Int))) with
  |false=>rw[hc]at h;cases h
  |true=>
   rw[hc]at h
   cases h
   simp only[Bool.and_eq_true,decide_eq_true_eq]at hc
   unfold Instr.sliceBound; simp only[asIntOf,Sem.run_bind,Sem.run_pure,Result.andThen_ok]
   rw[if_pos (by omega)]
   rfl
 ·cases h
theorem sliceBounds_run {P:Program} {ρ:Map} {w:World} {lo lo' hi hi':Option Value} {len cap cap' h l:Nat} (hlo:ORel ρ lo lo') (hhi:ORel ρ hi hi') (hc:cap≤cap')
  (h1:boundE hi len cap=some h) (h2:boundE lo 0 h=some l):(Instr.sliceBounds true len cap' lo' hi' none).run P w=.ok (l,h,cap') w:=by
 unfold Instr.sliceBounds; cases hhi with
 |none=>
  simp only[boundE]at h1
  cases h1
  cases hlo with
  |none=>
   simp only[boundE]at h2
   cases h2
   simp
  |some hv=>
   simp[bound_run hv (Nat.le_refl _) h2]
 |some hv=>
  cases hlo with
  |none=>
   simp only[boundE]at h2
   cases h2
   simp[bound_run hv hc h1]
  |some hv2=>
   simp[bound_run hv hc h1,bound_run hv2 (Nat.le_refl _) h2]
theorem Next.note {lo:Nat} {ρ:Map} {H:AH} {w:World} (hi:Inv ρ H w) (p:Spot):Next lo ρ H w (upd ρ H.next p) ⟨H.next+1,H.objs⟩ w:=by
 have hext:=upd_ext hi p; have hat:∀ k o,(k,o)∈H.objs→upd ρ H.next p k=ρ k:=fun k o hm=>upd_ne (Nat.ne_of_lt (hi.wf k o hm))
 refine
 {inv:=⟨fun k hk=>?_,fun k o hm=>Nat.lt_succ_of_lt (hi.wf k o hm),hi.one,⟨fun k o hm=>?_,fun k o k' o' s s' h1 h2 h3 h4 h5=>?_⟩⟩
  same:=fun k hk=>upd_ne (Nat.ne_of_lt hk)
  nx:=Nat.le_succ _
  size:=Nat.le_refl _
  os:=rfl
  tape:=rfl
  output:=rfl
  keep:=fun _ _ _=>rfl
  own:=fun k o s hk hm he=>?_
  old:=fun _ _ _=>Iff.rfl }
 ·simp only at hk
  rw[upd_ne (by omega)]
  exact hi.dom k (by omega)
 ·obtain⟨s,h1,h2⟩:=hi.rel.obj k o hm
  exact⟨s,hext _ _ h1,h2.mono hext⟩
 ·rw[hat k o h1]at h3
  rw[hat k' o' h2]at h4
  exact hi.rel.inj k o k' o' s s' h1 h2 h3 h4 h5
 ·rw[hat k o hm]at he
  exact .inr ⟨k,o,s,hk,hm,he,rfl⟩
theorem sliceE_sound {R:Type} {P:Program} {lo:Nat} {H:AH} {t:TypeId} {x:Value} {xo:Operand} {l h:Option Operand} {l' h':Option Value} {k:Value→AH→Option R} {r:R}
  (hh:sliceE P H t x l' h' k=some r) {o:Oper} (ho:o.op=.slice t xo l h none):
  ∃ v H',k v H'=some r∧∀{ρ:Map} {w:World} {a:Act},Inv ρ H w→VRel ρ x (a.eval xo)→ORel ρ l' (l.map a.eval)→ORel ρ h' (h.map a.eval)→Done P lo o a ρ H w v H':=by
 unfold sliceE at hh; split at hh
 ·rename_i elem ad n c hu
  obtain⟨h0,g1,hh⟩:=bind_some' hh
  obtain⟨l0,g2,hh⟩:=bind_some' hh
  obtain⟨size,g3,hh⟩:=bind_some' hh
  cases hc:((Nat.blt l0 c || Nat.beq l0 0) && Nat.ble l0 c && ad.spot.isNone) with
  |false=>
   rw[hc]at hh
   simp only[cond_false]at hh
   cases hc2:(Nat.beq l0 c && Nat.beq h0 l0 && ad.spot.isNone) with
   |false=>rw[hc2]at hh;cases hh
   |true=>
    rw[hc2]at hh
    simp only[cond_true]at hh
    simp only[Bool.and_eq_true,Nat.beq_eq]at hc2
    obtain⟨⟨hc1,hc2⟩,hsp⟩:=hc2
    refine⟨_,_,hh,fun{ρ w a} hi hx hl hhi=>?_⟩
    generalize he:a.eval xo=x' at *
    cases hx with
    |@slice kb off _ _ sp hk=>
     have hb:=sliceBounds_run (P:=P) (w:=w) (cap':=c+sp.x) hl hhi (by omega) g1 g2; refine Done.value (w':=w) (v':=.slice (some ⟨sp.b,(if c+sp.x=l0 then sp.d+off else sp.d+off+l0*size)+0,none⟩) 0 (0+sp.x)) ?_
      (Next.note hi ⟨sp.b,if c+sp.x=l0 then sp.d+off else sp.d+off+l0*size,sp.x⟩) (VRel.slice (s:=⟨sp.b,if c+sp.x=l0 then sp.d+off else sp.d+off+l0*size,sp.x⟩) (upd_same _ _ _))
     simp only[execOp,ho,he,Instr.sliceAt,Instr.slice,Sem.run_bind,run_underlying hu,Result.andThen_ok,Option.map_none,hb,calm_run g3,Sem.run_pure]
     congr 3
     ·by_cases h0:c+sp.x=l0
      ·rw[if_pos h0,if_pos h0]
       simp
      ·rw[if_neg h0,if_neg h0]
       simp[add_none]
     ·omega
     ·omega
  |true=>
   rw[hc]at hh
   simp only[cond_true]at hh
   simp only[Bool.and_eq_true,Bool.or_eq_true,Nat.blt_eq,Nat.beq_eq,Nat.ble_eq]at hc
   obtain⟨⟨hc1,hc2⟩,hsp⟩:=hc
   refine⟨_,_,hh,fun{ρ w a} hi hx hl hhi=>?_⟩
   generalize he:a.eval xo=x' at *
   cases hx with
   |@slice kb off _ _ sp hk=>
    refine Done.value (w':=w) (v':=.slice (some ⟨sp.b,sp.d+(off+l0*size),none⟩) (h0-l0) (c-l0+sp.x)) ?_ (Next.refl hi) (VRel.slice hk)
    have hb:=sliceBounds_run (P:=P) (w:=w) (cap':=c+sp.x) hl hhi (by omega) g1 g2; simp only[execOp,ho,he,Instr.sliceAt,Instr.slice,Sem.run_bind,run_underlying hu,Result.andThen_ok,Option.map_none,hb,calm_run g3,Sem.run_pure]; congr 3
    ·by_cases h0:c+sp.x=l0
     ·rw[if_pos h0]
      have:l0=0:=by omega
      subst this; simp
     ·rw[if_neg h0]
      simp[add_none,Nat.add_assoc]
    ·omega
 ·rename_i elem n c hu
  obtain⟨h0,g1,hh⟩:=bind_some' hh
  obtain⟨l0,g2,hh⟩:=bind_some' hh
  obtain⟨size,g3,hh⟩:=bind_some' hh
  refine⟨_,_,hh,fun{ρ w a} hi hx hl hhi=>?_⟩
  generalize he:a.eval xo=x' at *
  cases hx with
  |nilSlice=>
   refine Done.value (w':=w) ?_ (Next.refl hi) (VRel.nilSlice _ _)
   have hb:=sliceBounds_run (P:=P) (w:=w) (cap':=c) hl hhi (by omega) g1 g2; simp only[execOp,ho,he,Instr.sliceAt,Instr.slice,Sem.run_bind,run_underlying hu,Result.andThen_ok,Option.map_none,hb,calm_run g3,Sem.run_pure]; congr 3; split<;>simp
 ·cases hh
theorem extract_eq (l:List Value) (a n:Nat):(⟨l⟩:Array Value).extract a (a+n)=⟨(l.drop a).take n⟩:=by
 apply Array.ext'
 simp[List.extract_eq_take_drop]
theorem run_part {R:Type} {P:Program} {t:TypeId} {cs:List Value} {off:Nat} {k:Value→Option R} {r:R} (h:loadE P t cs off k=some r):
  ∃ v,k v=some r∧∀{ρ:Map} {w:World} {cs':List Value},VRels ρ cs cs'→∃ v',(part t ⟨cs'⟩ off).run P w=.ok v' w∧VRel ρ v v':=by
 unfold loadE at h; cases hrow:isRowB P t with
 |true=>
  simp only[hrow,cond_true]at h
  cases hlen:Nat.ble (off+P.cellsOf t) cs.length && !Nat.beq (P.cellsOf t) 0 with
  |false=>simp[hlen]at h
  |true=>
   simp only[hlen,cond_true]at h
   simp only[Bool.and_eq_true,Nat.ble_eq,Bool.not_eq_true']at hlen
   have hz:P.cellsOf t≠0:=fun e=>by have:=hlen.2;simp[e]at this
   have hd:∃ d,P.underlying t=some d∧d.isRow=true:=by
    unfold isRowB at hrow; split at hrow
    ·exact⟨_,‹_›,rfl⟩
    ·exact⟨_,‹_›,rfl⟩
    ·cases hrow
   obtain⟨d0,hu,hd0⟩:=hd
   refine⟨_,h,fun{ρ w cs'} hc=>?_⟩
   have hagg:(isAgg t).run P w=.ok true w:=by
    unfold isAgg
    rw[Sem.run_bind,run_underlying hu w]
    cases d0<;>simp_all
   have hsz:(sizeOf t).run P w=.ok (P.cellsOf t) w:=by
    have:=info_of_cells hz
    cases hq:P.info? t with
    |none=>simp[hq]at this
    |some i=>simp[hq]at this;simp[sizeOf,typeInfo,hq,this]
   refine⟨.agg ⟨(cs'.drop off).take (P.cellsOf t)⟩,?_,.agg ((hc.drop off).take _)⟩
   simp only[part,Sem.run_bind,hagg,Result.andThen_ok,if_true,hsz,Sem.run_pure,extract_eq]
 |false=>
  simp only[hrow,cond_false]at h
  cases hu:P.underlying t with
  |none=>simp[hu]at h
  |some d0=>
   simp only[hu,Option.isSome_some,cond_true]at h
   obtain⟨v,h1,h2⟩:=bind_some' h
   refine⟨v,h2,fun{ρ w cs'} hc=>?_⟩
   obtain⟨v',h3,h4⟩:=hc.get off h1
   have hagg:(isAgg t).run P w=.ok false w:=by
    unfold isAgg
    rw[Sem.run_bind,run_underlying hu w]
    unfold isRowB at hrow
    rw[hu]at hrow
    cases d0<;>simp_all
   refine⟨v',?_,h4⟩
   simp[part,hagg,h3]
def fieldE {R:Type} (P:Program) (t:TypeId) (x:Value) (f:Nat) (k:Value→Option R):Option R:=
 match P.underlying t,x with
 |some (.struct fields),.agg ⟨cs⟩=>
  match fields[f]? with
  |some fd=>loadE P fd.type cs fd.offset k
  |none=>none
 |_,_=>none
theorem fieldE_sound {R:Type} {P:Program} {lo:Nat} {H:AH} {t:TypeId} {x:Value} {xo:Operand} {f:Nat} {k:Value→Option R} {r:R} (h:fieldE P t x f k=some r)
  {o:Oper} (ho:o.op=.field t xo f):∃ v,k v=some r∧∀{ρ:Map} {w:World} {a:Act},Inv ρ H w→VRel ρ x (a.eval xo)→Done P lo o a ρ H w v H:=by
 unfold fieldE at h; split at h
 ·rename_i fields cs hu; split at h
  ·rename_i fd hfd
   obtain⟨v,h1,h2⟩:=run_part h
   refine⟨v,h1,fun{ρ w a} hi hx=>?_⟩
   generalize he:a.eval xo=x' at *
   cases hx with
   |agg hc=>
    obtain⟨v',h2,h3⟩:=h2 (w:=w) hc
    refine Done.value (w':=w) ?_ (Next.refl hi) h3
    simp only[execOp,ho,he,Instr.field,Sem.run_bind,run_underlying hu,Result.andThen_ok,hfd,asAgg,Sem.run_pure,h2]
  ·cases h
 ·cases h
def indexE {R:Type} (P:Program) (t:TypeId) (x i:Value) (k:Value→Option R):Option R:=
 match P.underlying t,x,i with
 |some (.array len elem),.agg ⟨cs⟩,.int _ i=>
  bif decide (0≤i) && decide (i<len) then (calm P (sizeOf elem)).bind fun n=>loadE P elem cs (i.toNat*n) k else none
 |_,_,_=>none
theorem indexE_sound {R:Type} {P:Program} {lo:Nat} {H:AH} {t:TypeId} {x i:Value} {xo io:Operand} {k:Value→Option R} {r:R} (h:indexE P t x i k=some r)
  {o:Oper} (ho:o.op=.index t xo io):∃ v,k v=some r∧∀{ρ:Map} {w:World} {a:Act},Inv ρ H w→VRel ρ x (a.eval xo)→VRel ρ i (a.eval io)→Done P lo o a ρ H w v H:=by
 unfold indexE at h; split at h
 ·rename_i len elem cs kk i hu; cases hc:(decide (0≤i) && decide (i<(len:Int))) with
  |false=>rw[hc]at h;cases h
  |true=>
   rw[hc]at h
   simp only[cond_true]at h
   simp only[Bool.and_eq_true,decide_eq_true_eq]at hc
   obtain⟨n,h1,h⟩:=bind_some' h
   obtain⟨v,g1,g2⟩:=run_part h
   refine⟨v,g1,fun{ρ w a} hi hx hy=>?_⟩
   generalize he:a.eval xo=x' at *
   generalize he2:a.eval io=i' at *
   cases hx with
   |agg hcs=>
    cases hy
    obtain⟨v',g2,g3⟩:=g2 (w:=w) hcs
    refine Done.value (w':=w) ?_ (Next.refl hi) g3
    simp only[execOp,ho,he,he2,Instr.index,Sem.run_bind,run_underlying hu,Result.andThen_ok,asIntOf,Sem.run_pure]
    rw[if_pos hc]
    simp only[Sem.run_bind,calm_run h1,Result.andThen_ok,g2,Sem.run_pure]
 ·cases h
def extractE {R:Type} (x:Value) (i:Nat) (k:Value→Option R):Option R:=
 match x with
 |.tuple ⟨cs⟩=>(cs[i]?).bind k
 |_=>none
theorem extractE_sound {R:Type} {P:Program} {lo:Nat} {H:AH} {x:Value} {xo:Operand} {i:Nat} {k:Value→Option R} {r:R} (h:extractE x i k=some r)
  {o:Oper} (ho:o.op=.extract xo i):∃ v,k v=some r∧∀{ρ:Map} {w:World} {a:Act},Inv ρ H w→VRel ρ x (a.eval xo)→Done P lo o a ρ H w v H:=by
 unfold extractE at h; split at h
 ·rename_i cs
  obtain⟨v,h1,h⟩:=bind_some' h
  refine⟨v,h,fun{ρ w a} hi hx=>?_⟩
  generalize he:a.eval xo=x' at *
  cases hx with
  |tuple hc=>
   obtain⟨v',h3,h4⟩:=hc.get i h1
   refine Done.value (w':=w) ?_ (Next.refl hi) h4
   simp[execOp,ho,he,Instr.extract,h3]
 ·cases h
def makeIfaceE {R:Type} (P:Program) (t:TypeId) (x:Value) (k:Value→Option R):Option R:=
 match P.underlying t with
 |some (.interface _)=>none
 |some _=>k (.iface t x)
 |none=>none
theorem makeIfaceE_sound {R:Type} {P:Program} {lo:Nat} {H:AH} {t:TypeId} {x:Value} {xo:Operand} {k:Value→Option R} {r:R} (h:makeIfaceE P t x k=some r)
  {o:Oper} (ho:o.op=.makeInterface t xo):∃ v,k v=some r∧∀{ρ:Map} {w:World} {a:Act},Inv ρ H w→VRel ρ x (a.eval xo)→Done P lo o a ρ H w v H:=by
 unfold makeIfaceE at h; split at h
 ·cases h
 ·rename_i d hne hu
  refine⟨_,h,fun{ρ w a} hi hx=>Done.value (w':=w) (v':=.iface t (a.eval xo)) ?_ (Next.refl hi) (.iface t hx)⟩
  have:(Instr.makeInterface t (a.eval xo)).run P w=.ok (.iface t (a.eval xo)) w:=by
   unfold Instr.makeInterface
   rw[Sem.run_bind,run_underlying hu]
   cases d<;>first|rfl|exact absurd rfl (hne _)
  simp[execOp,ho,this]
 ·cases h
def assertE {R:Type} (P:Program) (x:Value) (t:TypeId) (commaOk:Bool) (k:Value→Option R):Option R:=
 match P.underlying t,x with
 |some (.interface _),_=>none
 |some _,.iface u v=>
  bif Nat.beq u t then k (bif commaOk then .tuple #[v,.bool true] else v)
  else bif commaOk then (calm P (zeroValue t)).bind fun z=>bif flat z then k (.tuple #[z,.bool false]) else none
  else none
 |_,_=>none
theorem assertE_sound {R:Type} {P:Program} {lo:Nat} {H:AH} {xt t:TypeId} {x:Value} {xo:Operand} {c:Bool} {k:Value→Option R} {r:R} (h:assertE P x t c k=some r)
  {o:Oper} (ho:o.op=.typeAssert xo xt t c):∃ v,k v=some r∧∀{ρ:Map} {w:World} {a:Act},Inv ρ H w→VRel ρ x (a.eval xo)→Done P lo o a ρ H w v H:=by
 unfold assertE at h; split at h
 ·cases h
 ·rename_i d u v hne hu; cases hb:Nat.beq u t with
  |true=>
   rw[hb]at h
   have:=Nat.eq_of_beq_eq_true hb
   subst this
   refine⟨_,h,fun{ρ w a} hi hx=>?_⟩
   generalize he:a.eval xo=x' at *
   cases hx with
   |iface _ hv=>
    rename_i v'; have hrun:(Instr.typeAssert (.iface u v') xt u c).run P w=.ok (if c then .tuple #[v',.bool true] else v') w:=by
     unfold Instr.typeAssert
     rw[Sem.run_bind,run_underlying hu]
     cases d<;>first|exact absurd rfl (hne _)|simp
    cases c with
    |true=>exact Done.value (w':=w) (by simp[execOp,ho,he,hrun]) (Next.refl hi) (.tuple (.cons hv (.cons (.bool _) .nil)))
    |false=>exact Done.value (w':=w) (by simp[execOp,ho,he,hrun]) (Next.refl hi) hv
  |false=>
   rw[hb]at h
   cases c with
   |false=>cases h
   |true=>
    simp only[cond_true,cond_false]at h
    obtain⟨z,h1,h⟩:=bind_some' h
    cases hf:flat z with
    |false=>rw[hf]at h;cases h
    |true=>
     rw[hf]at h
     refine⟨_,h,fun{ρ w a} hi hx=>?_⟩
     generalize he:a.eval xo=x' at *
     cases hx with
     |iface _ hv=>
      rename_i v'; refine Done.value (w':=w) (v':=.tuple #[z,.bool false]) ?_ (Next.refl hi) (.tuple (.cons (VRel.ofFlat ρ hf) (.cons (.bool _) .nil))); have hne':u≠t:=fun e=>by subst e;simp at hb
      have hrun:(Instr.typeAssert (.iface u v') xt t true).run P w=.ok (.tuple #[z,.bool false]) w:=by
       unfold Instr.typeAssert
       rw[Sem.run_bind,run_underlying hu]
       cases d<;>first|exact absurd rfl (hne _)|simp[hne',calm_run h1]
      simp[execOp,ho,he,hrun]
 ·cases h
def nilCheckE {R:Type} (x:Value) (k:Value→Option R):Option R:=
 match x with
 |.pointer (some _)=>k x
 |.func (.func _) _ _=>k x
 |_=>none
theorem nilCheckE_sound {R:Type} {P:Program} {lo:Nat} {H:AH} {x:Value} {xo:Operand} {k:Value→Option R} {r:R} (h:nilCheckE x k=some r)
  {o:Oper} (ho:o.op=.nilCheck xo):∃ v,k v=some r∧∀{ρ:Map} {w:World} {a:Act},Inv ρ H w→VRel ρ x (a.eval xo)→Done P lo o a ρ H w v H:=by
 unfold nilCheckE at h; split at h
 ·refine⟨_,h,fun{ρ w a} hi hx=>?_⟩
  generalize he:a.eval xo=x' at *
  cases hx with
  |ptr hk=>exact Done.value (w':=w) (by simp[execOp,ho,he]) (Next.refl hi) (.ptr hk)
 ·refine⟨_,h,fun{ρ w a} hi hx=>?_⟩
  generalize he:a.eval xo=x' at *
  cases hx with
  |func _ ha hb=>exact Done.value (w':=w) (by simp[execOp,ho,he]) (Next.refl hi) (.func _ ha hb)
 ·cases h
end Go.Vm
