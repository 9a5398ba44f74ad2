/- A part of the evaluator and of what is told of floats; no conditions. -/
import Derived.Test.YtaogignikkjkjaaGreatVmD
import Derived.Laws.StructEq
import Derived.ArgAppend
import Derived.MapKept
import Derived.Lib.AppendZeros
import Derived.Deep.Upon
set_option linter.unusedSimpArgs false
set_option linter.unusedVariables false
set_option linter.unusedSectionVars false
set_option maxRecDepth 1000000
namespace Go.Vm
def unE {R:Type} (op:UnOp) (x:Value) (k:Value→Option R) (other:Option R):Option R:=
 match op,x with
 |.neg,.float .f64 b=>forceN (Op.negFloat .f64 b) fun n=>k (.float .f64 n)
 |.not,.bool b=>k (.bool (!b))
 |_,_=>other
theorem unE_sound {R:Type} {P:Program} {op:UnOp} {x:Value} {k:Value→Option R} {other:Option R} {r:R} (h:unE op x k other=some r):
  other=some r∨∃ v,k v=some r∧flat v=true∧∀{ρ:Map} {w:World} {x':Value},VRel ρ x x'→(Op.unary op x').run P w=.ok v w:=by
 unfold unE at h; split at h
 ·rw[forceN_eq]at h
  exact .inr ⟨_,h,rfl,fun hx=>by cases hx;rfl⟩
 ·exact .inr ⟨_,h,rfl,fun hx=>by cases hx;rfl⟩
 ·exact .inl h
def convE {R:Type} (fi:Fi) (P:Program) (s d:TypeId) (x:Value) (k:Value→Option R) (other:Option R):Option R:=
 bif (P.underlying s).isSome then
  match P.underlying d,x with
  |some (.int kk),.int _ n=>fi R (kk.wrap n) fun n=>k (.int kk n)
  |some (.float .f64),.int _ n=>forceN (floatOfInt .f64 n) fun b=>k (.float .f64 b)
  |some (.int kk),.float .f64 b=>(floatToIntVal .f64 b kk).bind fun n=>fi R n fun n=>k (.int kk n)
  |_,_=>other
 else other
theorem convE_sound {R:Type} {P:Program} {s d:TypeId} {x:Value} {k:Value→Option R} {other:Option R} {r:R} {fi:Fi} (hfi:fi.Fair) (h:convE fi P s d x k other=some r):
  other=some r∨∃ v,k v=some r∧flat v=true∧∀{ρ:Map} {w:World} {x':Value},VRel ρ x x'→(convert s d x').run P w=.ok v w:=by
 unfold convE at h; cases hs:(P.underlying s).isSome with
 |false=>rw[hs]at h;exact .inl h
 |true=>
  rw[hs]at h
  simp only[cond_true]at h
  obtain⟨u,hu⟩:=Option.isSome_iff_exists.1 hs
  split at h
  ·rename_i kk k2 n hd
   rw[hfi]at h
   refine .inr ⟨_,h,rfl,fun{ρ w x'} hx=>?_⟩
   cases hx
   cases u<;>simp[convert,run_underlying hu,run_underlying hd,Conv.intToInt]
  ·rename_i k2 n hd
   rw[forceN_eq]at h
   refine .inr ⟨_,h,rfl,fun{ρ w x'} hx=>?_⟩
   cases hx
   cases u<;>simp[convert,run_underlying hu,run_underlying hd,Conv.intToFloat]<;>rfl
  ·rename_i kk b hd
   obtain⟨n,h1,h⟩:=bind_some' h
   rw[hfi]at h
   exact .inr ⟨_,h,rfl,fun{ρ w x'} hx=>by cases hx;exact run_convert_float_int w s d .f64 kk b n hs hd h1⟩
  ·exact .inl h
def pickE {R:Type} (c:Value) (x y:Option Value) (k:Value→Option R):Option R:=
 match c with
 |.bool t=>
  match x,y with
  |some (.bool u),some (.bool v)=>k (.bool (bif t then u else v))
  |_,_=>bif t then x.bind k else y.bind k
 |_=>none
def builtinE {R:Type} (P:Program) (b:Builtin) (ts:Array TypeId) (vs:List Value) (k:Value→Option R) (other:Option R):Option R:=
 match b,vs with
 |.real,[.complex .f64 re im]=>k (.float .f64 re)
 |.imag,[.complex .f64 re im]=>k (.float .f64 im)
 |.complex,[.float .f64 re,.float .f64 im]=>k (.complex .f64 re im)
 |.len,[.slice a n c]=>
  match ts[0]? with
  |some t=>
   match P.underlying t with
   |some (.slice _)=>k (.int .i64 n)
   |_=>none
  |none=>none
 |_,_=>other
theorem builtinE_sound {R:Type} {P:Program} {b:Builtin} {ts:Array TypeId} {ty:TypeId} {vs:List Value} {k:Value→Option R} {other:Option R} {r:R} (h:builtinE P b ts vs k other=some r):
  other=some r∨∃ v,k v=some r∧flat v=true∧∀{ρ:Map} {w:World} {cs:Array Bool} {vs':List Value},VRels ρ vs vs'→(builtin b ts ty cs ⟨vs'⟩).run P w=.ok (.value v) w:=by
 unfold builtinE at h; split at h
 ·refine .inr ⟨_,h,rfl,fun{ρ w cs vs'} hx=>?_⟩
  obtain _|⟨h1,h2⟩:=hx; cases h1;cases h2; rfl
 ·refine .inr ⟨_,h,rfl,fun{ρ w cs vs'} hx=>?_⟩
  obtain _|⟨h1,h2⟩:=hx; cases h1;cases h2; rfl
 ·refine .inr ⟨_,h,rfl,fun{ρ w cs vs'} hx=>?_⟩
  obtain _|⟨h1,h2⟩:=hx; obtain _|⟨h2,h3⟩:=h2; cases h1;cases h2;cases h3; simp only[builtin,Sem.run_bind,run_complex,Result.andThen_ok,Sem.run_pure]
 ·rename_i a n c; split at h
  ·rename_i t ht; split at h
   ·rename_i e hu; refine .inr ⟨_,h,rfl,fun{ρ w cs vs'} hx=>?_⟩; obtain _|⟨h1,h2⟩:=hx; cases h2; cases h1<;>simp[builtin,Builtin.len_,ht,run_underlying hu,goInt]
   ·cases h
  ·cases h
 ·exact .inl h
theorem run_call_builtin {P:Program} {a:Act} {o:Oper} {c:Call} {b:Builtin} {w:World} (ho:o.op=.call c) (hc:c.callee=.builtin b):
  ∃ cs,(execOp a.eval o).run P w=(builtin b c.argTypes o.type cs (c.args.map a.eval)).run P w:=by
 refine⟨c.args.map fun | .const _=>true|_=>false,?_⟩
 simp only[execOp,ho,resolve,hc,invoke,Sem.run_bind,Sem.run_pure,Result.andThen_ok]
 rfl
def eqAggE {R:Type} (P:Program) (op:BinOp) (t:TypeId) (x y:Value) (k:Value→Option R) (other:Option R):Option R:=other
theorem eqAggE_sound {R:Type} {P:Program} {op:BinOp} {t:TypeId} {ox oy:Operand} {x y:Value} {k:Value→Option R} {other:Option R} {r:R} (h:eqAggE P op t x y k other=some r):
  other=some r∨∃ v,k v=some r∧flat v=true∧∀{ρ:Map} {w:World} {x' y':Value},VRel ρ x x'→VRel ρ y y'→((do eqGuard op t ox oy x' y';binOp op t x' y'):Sem Value).run P w=.ok v w:=.inl h
def newsE (H:AH) (size:Nat) (ad:Addr) (m:Nat):Option (List Value):=
 match look ad.block H.objs with
 |some (.cells cs _)=>bif ad.spot.isNone && Nat.beq ((cs.drop ad.off).take (m*size)).length (m*size) then some ((cs.drop ad.off).take (m*size)) else none
 |_=>none
theorem newsE_sound {H:AH} {size m:Nat} {ad:Addr} {l:List Value} (h:newsE H size ad m=some l):l.length=m*size∧
  ∀{ρ:Map} {w:World} {s:Spot},Inv ρ H w→ρ ad.block=some s→∃ l',VRels ρ l l'∧l'.length=m*size∧∀ j v,l'[j]?=some v→w.cell? ((⟨s.b,s.d+ad.off,none⟩:Addr).add j)=some v:=by
 unfold newsE at h; split at h
 ·rename_i cs sz hl; cases hc:(ad.spot.isNone && Nat.beq ((cs.drop ad.off).take (m*size)).length (m*size)) with
  |false=>rw[hc]at h;cases h
  |true=>
   rw[hc]at h
   cases h
   simp only[Bool.and_eq_true,Nat.beq_eq]at hc
   refine⟨hc.2,fun{ρ w s} hi hs=>?_⟩
   obtain⟨s2,e1,e2⟩:=hi.rel.obj ad.block _ (look_mem hl)
   rw[hs]at e1
   cases e1
   obtain⟨arr,ty,cs',⟨⟨fr,hb⟩,_⟩,hr,hcc,_,_⟩:=e2
   have hr2:=(hr.drop ad.off).take (m*size)
   refine⟨(cs'.drop ad.off).take (m*size),hr2,by rw[hr2.length];exact hc.2,fun j v hv=>?_⟩
   rw[List.getElem?_take]at hv
   split at hv
   ·rw[List.getElem?_drop]at hv
    have:=hcc _ v hv
    rw[add_none]
    simp[World.cell?,hb,Nat.add_assoc,this]
   ·cases hv
 ·cases h
def appendE {R:Type} (P:Program) (lo:Nat) (H:AH) (ts:List TypeId) (s x:Value) (k:Value→AH→Option R):Option R:=
 match ts with
 |[t,t']=>bif Nat.beq t t' then
  match P.underlying t with
  |some (.slice e)=>
   match P.info? e with
   |some i=>
    match i.zero with
    |some z=>
     bif Nat.blt 0 i.size && Nat.beq z.cells.size i.size then
      match x with
      |.slice (some ad) m _=>
       (newsE H i.size ad m).bind fun news=>
        bif Nat.blt 0 m && allOne news then
         match s with
         |.slice none 0 0=>
          bif Nat.ble (m*i.bytes) 140737488355328 && Nat.ble m 1099511627776 then k (.slice (some ⟨H.next,0,none⟩) m m) (H.push (.cells news i.size)) else none
         |.slice (some sd) n c=>
          match look sd.block H.objs with
          |some (.cells cs sz)=>
           (newsE H i.size sd n).bind fun olds=>
            bif Nat.beq n c && Nat.ble ((n+m)*i.bytes) 140737488355328 && Nat.ble (n+m) 1099511627776 then
             bif Nat.beq sz 0 then k (.slice (some ⟨H.next,0,none⟩) (n+m) (n+m)) (H.push (.cells (olds++news) i.size))
             else bif Nat.beq sz i.size && Nat.beq sd.off 0 && Nat.beq cs.length (n*i.size) && Nat.ble lo sd.block then
              k (.slice (some ⟨H.next,0,none⟩) (n+m) (n+m)) ⟨H.next+1,(H.next,.cells (olds++news) i.size)::drop sd.block H.objs⟩
             else none
            else none
          |_=>none
         |_=>none
        else none
      |_=>none
     else none
    |none=>none
   |none=>none
  |_=>none
  else none
 |_=>none
theorem grown {P:Program} {lo:Nat} {ρ:Map} {H:AH} {w:World} (hi:Inv ρ H w) (hlo:lo≤H.next) {l l':List Value} {size need cap:Nat} (hl:VRels ρ l l') (hll:l'.length=need*size) (hs:0<size) (hc:need≤cap)
  {z:Array Value} (hz:z.size=size) {arr:Array Value} (harr:arr.toList=l'++(Builtin.zeroCells z (cap-need)).toList) (e:TypeId):
  Next lo ρ H w (upd ρ H.next ⟨w.heap.size,0,cap-need⟩) (H.push (.cells l size)) (w.drew.alloc (.cells arr e))∧
   VRel (upd ρ H.next ⟨w.heap.size,0,cap-need⟩) (.slice (some ⟨H.next,0,none⟩) need need) (.slice (some ⟨w.heap.size,0,none⟩) need cap):=by
 have hn:Next lo ρ H w ρ H w.drew:=Next.draw hi; have hlen:=hl.length; have hsz:arr.size=l'.length+(cap-need)*size:=by
  have:=congrArg List.length harr
  rw[List.length_append]at this
  simp only[Array.length_toList,size_zeroCells,hz]at this
  exact this
 constructor
 ·refine hn.trans (Next.alloc (w:=w.drew) hn.inv hlo _ _ (cap-need) ⟨arr,e,l',?_,hl.mono (upd_ext hi _),fun i v hv=>?_,?_,fun h=>absurd h (by omega)⟩)
  ·refine Lies.fresh ?_ _ _
   show (w.heap.push _)[w.heap.size]?=_; simp
  ·have:arr.toList[i]?=some v:=by
    rw[harr,List.getElem?_append_left (List.getElem?_eq_some_iff.1 hv).1];exact hv
   simpa using this
  ·simp only[Nat.zero_add]
   omega
 ·have:=VRel.slice (ρ:=upd ρ H.next ⟨w.heap.size,0,cap-need⟩) (k:=H.next) (o:=0) (n:=need) (c:=need) (s:=⟨w.heap.size,0,cap-need⟩) (upd_same _ _ _)
  simp only[Nat.zero_add]at this
  rw[show need+(cap-need)=cap by omega]at this
  exact this
theorem appendE_sound {R:Type} {P:Program} {lo:Nat} {H:AH} {ts:List TypeId} {s x:Value} {k:Value→AH→Option R} {r:R} (h:appendE P lo H ts s x k=some r):
  ∃ v H',k v H'=some r∧∀{ρ:Map} {w:World} {s' x':Value} {ty:TypeId},Inv ρ H w→lo≤H.next→VRel ρ s s'→VRel ρ x x'→
   ∃ ρ' w' v',(Builtin.append_ ⟨ts⟩ ty #[s',x']).run P w=.ok v' w'∧Next lo ρ H w ρ' H' w'∧VRel ρ' v v':=by
 unfold appendE at h; split at h
 case h_2=>cases h
 rename_i t t'; cases htt:Nat.beq t t' with
 |false=>rw[htt]at h;cases h
 |true=>
 rw[htt]at h
 have:=Nat.eq_of_beq_eq_true htt
 subst this; simp only[cond_true]at h; split at h
 case h_2=>cases h
 rename_i e hu; split at h
 case h_2=>cases h
 rename_i i hi; split at h
 case h_2=>cases h
 rename_i z hz; cases hsz:(Nat.blt 0 i.size && Nat.beq z.cells.size i.size) with
 |false=>rw[hsz]at h;cases h
 |true=>
 rw[hsz]at h
 simp only[Bool.and_eq_true,Nat.blt_eq,Nat.beq_eq]at hsz
 simp only[cond_true]at h
 split at h
 case h_2=>cases h
 rename_i ad m cx
 obtain⟨news,hnews,h⟩:=bind_some' h
 obtain⟨nl,nsound⟩:=newsE_sound hnews
 cases hm:(Nat.blt 0 m && allOne news) with
 |false=>rw[hm]at h;cases h
 |true=>
 rw[hm]at h
 simp only[Bool.and_eq_true,Nat.blt_eq]at hm
 simp only[cond_true]at h
 split at h
 ·cases hb:(Nat.ble (m*i.bytes) 140737488355328 && Nat.ble m 1099511627776) with
  |false=>rw[hb]at h;cases h
  |true=>
   rw[hb]at h
   simp only[Bool.and_eq_true,Nat.ble_eq]at hb
   refine⟨_,_,h,fun{ρ w s' x' ty} hinv hlo hs hx=>?_⟩
   cases hs
   cases hx with
   |@slice kb off _ _ sp hsp=>
    obtain⟨news',g1,g2,g3⟩:=nsound hinv hsp
    have hrun:=run_append_nil (P:=P) (w:=w) t ty e i z hu hi hz ⟨sp.b,sp.d+off,none⟩ m (cx+sp.x) news' g2 g3 (by omega) (by omega) (by omega); have hge:=grownCap_ge w m 0 e
    obtain⟨q1,q2⟩:=grown (P:=P) (lo:=lo) hinv hlo g1 g2 hsz.1 hge hsz.2 (arr:=news'.toArray++Builtin.zeroCells z.cells (grownCap w m 0 e-m)) (by simp) e
    exact⟨_,_,_,hrun,q1,q2⟩
 ·rename_i sd n c _hh; split at h
  case h_2=>cases h
  rename_i cs sz hl
  obtain⟨olds,holds,h2⟩:=bind_some' h
  clear h
  obtain⟨ol,osound⟩:=newsE_sound holds
  cases hb:(Nat.beq n c && Nat.ble ((n+m)*i.bytes) 140737488355328 && Nat.ble (n+m) 1099511627776) with
  |false=>rw[hb]at h2;cases h2
  |true=>
   rw[hb]at h2
   simp only[Bool.and_eq_true,Nat.ble_eq,Nat.beq_eq]at hb
   obtain⟨⟨rfl,b1⟩,b2⟩:=hb
   simp only[cond_true]at h2
   have growRun:∀{ρ:Map} {w:World} {ty:TypeId} {news' olds':List Value} {bs bx:Addr} {cap cx':Nat},olds'.length=n*i.size→(∀ j v,olds'[j]?=some v→w.cell? (bs.add j)=some v)→
     news'.length=m*i.size→(∀ j v,news'[j]?=some v→w.cell? (bx.add j)=some v)→cap<n+m→
     (Builtin.append_ ⟨[t,t]⟩ ty #[.slice (some bs) n cap,.slice (some bx) m cx']).run P w =
      .ok (.slice (some ⟨w.heap.size,0,none⟩) (n+m) (grownCap w (n+m) cap e)) (w.drew.alloc (.cells (olds'.toArray++news'.toArray++Builtin.zeroCells z.cells (grownCap w (n+m) cap e-(n+m))) e)):=
    fun{ρ w ty news' olds' bs bx cap cx'} h1 h2 h3 h4 h5=>run_append_grow (P:=P) w t ty e i z hu hi hz bs n cap olds' h1 h2 bx m cx' news' h3 h4 h5 (by omega) (growslice_fits h5 b1)
   cases hz0:Nat.beq sz 0 with
   |true=>
    rw[hz0]at h2
    have hz0':=Nat.eq_of_beq_eq_true hz0
    refine⟨_,_,h2,fun{ρ w s' x' ty} hinv hlo hs hx=>?_⟩
    cases hs with
    |@slice ks os _ _ ss hss=>
    cases hx with
    |@slice kb off _ _ sp hsp=>
     obtain⟨news',g1,g2,g3⟩:=nsound hinv hsp
     obtain⟨olds',k1,k2,k3⟩:=osound hinv hss
     obtain⟨s2,e1,e2⟩:=hinv.rel.obj ks _ (look_mem hl)
     rw[hss]at e1
     cases e1
     obtain⟨_,_,_,_,_,_,_,hx0⟩:=e2
     have hx0':=hx0 hz0'; have hrun:=growRun (ρ:=ρ) (w:=w) (ty:=ty) (cap:=n+ss.x) (cx':=cx+sp.x) k2 k3 g2 g3 (by omega); have hge:=grownCap_ge w (n+m) (n+ss.x) e
     obtain⟨q1,q2⟩:=grown (P:=P) (lo:=lo) hinv hlo (k1.append g1) (need:=n+m) (size:=i.size) (by rw[List.length_append,k2,g2,Nat.add_mul]) hsz.1 hge hsz.2
      (arr:=olds'.toArray++news'.toArray++Builtin.zeroCells z.cells (grownCap w (n+m) (n+ss.x) e-(n+m))) (by simp) e
     exact⟨_,_,_,hrun,q1,q2⟩
   |false=>
    rw[hz0]at h2
    simp only[cond_false]at h2
    cases hq:(Nat.beq sz i.size && Nat.beq sd.off 0 && Nat.beq cs.length (n*i.size) && Nat.ble lo sd.block) with
    |false=>rw[hq]at h2;cases h2
    |true=>
     rw[hq]at h2
     simp only[Bool.and_eq_true,Nat.ble_eq,Nat.beq_eq]at hq
     obtain⟨⟨⟨q1,q2⟩,q3⟩,q4⟩:=hq
     refine⟨_,_,h2,fun{ρ w s' x' ty} hinv hlo hs hx=>?_⟩
     cases hs with
     |@slice ks os _ _ ss hss=>
     cases hx with
     |@slice kb off _ _ sp hsp=>
      simp only at q2 q4; subst q2
      obtain⟨news',g1,g2,g3⟩:=nsound hinv hsp
      obtain⟨olds',k1,k2,k3⟩:=osound hinv hss
      have hm0:=look_mem hl
      obtain⟨s2,e1,e2⟩:=hinv.rel.obj ks _ hm0
      rw[hss]at e1
      cases e1
      obtain⟨arr,tyo,cs',hlies,ar,ac,aext,_⟩:=e2
      obtain⟨⟨fr,ab⟩,hz0⟩:=id hlies
      have arl:=ar.length; have keepS:∀ k o,k<lo→(k,o)∈H.objs→(k,o)∈drop ks H.objs:=fun k o hk hmm=>mem_drop.2 ⟨hmm,by simp only;omega⟩
      have freeS:∀ k o s,(k,o)∈drop ks H.objs→ρ k=some s→s.b≠ss.b:=fun k o s hmm hs hb=>by
       obtain⟨h1,h2⟩:=mem_drop.1 hmm
       exact h2 (hinv.rel.inj k o ks _ s ss h1 hm0 hs hss hb)
      by_cases hroom:m≤ss.x
      ·have hms:m*i.size≤ss.x*i.size:=Nat.mul_le_mul_right _ hroom; have hcellO:∀(j:Nat) v,olds'[j]?=some v→arr[ss.d+j]?=some v:=fun j v hv=>by
        have:=k3 j v hv
        rw[add_none]at this
        simpa[World.cell?,ab] using this
       have hlen:arr.size ≥ ss.d+n*i.size+ss.x*i.size:=by rw[q1]at aext;omega
       have hone:=allOne_rel g1 hm.2; have hrun:=run_append_room_cells (P:=P) w t ty e i hu hi ss.b (ss.d+0) n (n+ss.x) ⟨sp.b,sp.d+off,none⟩ m (cx+sp.x) news' g2 g3 hone (by omega)
        (fun j hj=>by
         have:ss.d+0+n*i.size+j<arr.size:=by omega
         simp only[Nat.add_zero]at this
         simp[World.cell?,ab,this]) (fun j hj=>by
         rw[show ss.d+0+n*i.size+j=ss.d+(n*i.size+j) by omega]
         exact hz0 _ (by rw[q1];omega))
       obtain⟨w1,w2,w3,w4,w5,w6⟩:=setCells_heap ss.b news' (ss.d+0+n*i.size) w arr tyo fr ab
       refine⟨upd ρ H.next ⟨ss.b,ss.d,ss.x-m⟩,_,_,hrun,?_,?_⟩
       ·refine Next.add hinv hlo _ ⟨ss.b,ss.d,ss.x-m⟩ (drop ks H.objs) (fun y hy=>(mem_drop.1 hy).1) keepS (Nat.le_of_eq w3.symm) w4 w5 w6 (fun b _ hb=>w2 b hb) (.inr ⟨ks,_,ss,q4,hm0,hss,rfl⟩) freeS
         ⟨_,tyo,olds'++news',hlies.put ab w1 rfl (by
           rw[List.length_append,ol,nl,q1]
           have:(ss.x-m)*i.size=ss.x*i.size-m*i.size:=Nat.sub_mul _ _ _
           simp only
           omega),(k1.append g1).mono (upd_ext hinv _),fun j v hv=>?_,?_,fun h=>absurd h (by omega)⟩
        ·rw[foldl_set_get]
         rcases Nat.lt_or_ge j (n*i.size) with hj|hj
         ·rw[if_neg (by simp only;omega)]
          rw[List.getElem?_append_left (by omega)]at hv
          exact hcellO j v hv
         ·rw[List.getElem?_append_right (by omega),k2]at hv
          have hjl:=(List.getElem?_eq_some_iff.1 hv).1
          rw[if_pos (by simp only;omega)]
          simp only
          rw[show ss.d+j-(ss.d+0+n*i.size)=j-n*i.size by omega]
          exact hv
        ·rw[foldl_set_size,List.length_append,ol,nl]
         have:(ss.x-m)*i.size=ss.x*i.size-m*i.size:=Nat.sub_mul _ _ _
         simp only
         omega
       ·have:=VRel.slice (ρ:=upd ρ H.next ⟨ss.b,ss.d,ss.x-m⟩) (k:=H.next) (o:=0) (n:=n+m) (c:=n+m) (s:=⟨ss.b,ss.d,ss.x-m⟩) (upd_same _ _ _)
        simp only at this
        rw[show n+m+(ss.x-m)=n+ss.x by omega]at this
        exact this
      ·have hrun:=growRun (ρ:=ρ) (w:=w) (ty:=ty) (cap:=n+ss.x) (cx':=cx+sp.x) k2 k3 g2 g3 (by omega); have hge:=grownCap_ge w (n+m) (n+ss.x) e
       obtain⟨r1,r2⟩:=grown (P:=P) (lo:=lo) hinv hlo (k1.append g1) (need:=n+m) (size:=i.size) (by rw[List.length_append,k2,g2,Nat.add_mul]) hsz.1 hge hsz.2
        (arr:=olds'.toArray++news'.toArray++Builtin.zeroCells z.cells (grownCap w (n+m) (n+ss.x) e-(n+m))) (by simp) e
       refine⟨_,_,_,hrun,?_,r2⟩
       exact
       {r1 with
        inv:=⟨r1.inv.dom,fun k o hmm=>r1.inv.wf k o (by
          rcases List.mem_cons.1 hmm with g|g
          ·exact List.mem_cons.2 (.inl g)
          ·exact List.mem_cons.2 (.inr (mem_drop.1 g).1)),
         fun k o o' h1 h2=>r1.inv.one k o o' (by
          rcases List.mem_cons.1 h1 with g|g
          ·exact List.mem_cons.2 (.inl g)
          ·exact List.mem_cons.2 (.inr (mem_drop.1 g).1)) (by
          rcases List.mem_cons.1 h2 with g|g
          ·exact List.mem_cons.2 (.inl g)
          ·exact List.mem_cons.2 (.inr (mem_drop.1 g).1)),
         r1.inv.rel.sub fun y hy=>by
          rcases List.mem_cons.1 hy with g|g
          ·exact List.mem_cons.2 (.inl g)
          ·exact List.mem_cons.2 (.inr (mem_drop.1 g).1)⟩
        own:=fun k o s hk hmm=>r1.own k o s hk (by
          rcases List.mem_cons.1 hmm with g|g
          ·exact List.mem_cons.2 (.inl g)
          ·exact List.mem_cons.2 (.inr (mem_drop.1 g).1))
        old:=fun k o hk=>by
         rw[← r1.old k o hk]
         simp only[AH.push,List.mem_cons,mem_drop]
         constructor
         ·rintro (g|g)
          ·exact .inl g
          ·exact .inr g.1
         ·rintro (g|g)
          ·exact .inl g
          ·exact .inr ⟨g,by omega⟩ }
 ·cases h
def copyE {R:Type} (P:Program) (lo:Nat) (H:AH) (ts:List TypeId) (d s:Value) (k:Value→AH→Option R):Option R:=none
theorem copyE_sound {R:Type} {P:Program} {lo:Nat} {H:AH} {ts:List TypeId} {d s:Value} {k:Value→AH→Option R} {r:R} (h:copyE P lo H ts d s k=some r):
  ∃ v H',k v H'=some r∧∀{ρ:Map} {w:World} {d' s':Value} {ty:TypeId},Inv ρ H w→lo≤H.next→VRel ρ d d'→VRel ρ s s'→
   ∃ ρ' w' v',(Builtin.copy_ ⟨ts⟩ ty #[d',s']).run P w=.ok v' w'∧Next lo ρ H w ρ' H' w'∧VRel ρ' v v':=by cases h
def eqNilE {R:Type} (P:Program) (op:BinOp) (t:TypeId) (x y:Value) (k:Value→Option R) (other:Option R):Option R:=other
theorem eqNilE_sound {R:Type} {P:Program} {op:BinOp} {t:TypeId} {ox oy:Operand} {x y:Value} {k:Value→Option R} {other:Option R} {r:R} (h:eqNilE P op t x y k other=some r):
  other=some r∨∃ v,k v=some r∧flat v=true∧∀{ρ:Map} {w:World} {x' y':Value},VRel ρ x x'→VRel ρ y y'→((do eqGuard op t ox oy x' y';binOp op t x' y'):Sem Value).run P w=.ok v w:=.inl h
def nanBinE {R:Type} (op:BinOp) (x y:Value) (k:Value→Option R) (other:Option R):Option R:=other
theorem nanBinE_sound {R:Type} {P:Program} {lo:Nat} {H:AH} {op:BinOp} {t yt:TypeId} {ox oy:Operand} {x y:Value} {k:Value→Option R} {other:Option R} {r:R}
  {o:Oper} (ho:o.op=.binOp op t ox oy yt) (h:nanBinE op x y k other=some r):
  other=some r∨∃ v,k v=some r∧∀{ρ:Map} {w:World} {a:Act},Inv ρ H w→VRel ρ x (a.eval ox)→VRel ρ y (a.eval oy)→Done P lo o a ρ H w v H:=.inl h
def nanBuiltinE {R:Type} (b:Builtin) (vs:List Value) (k:Value→Option R) (other:Option R):Option R:=other
theorem nanBuiltinE_sound {R:Type} {P:Program} {b:Builtin} {ts:Array TypeId} {ty:TypeId} {vs:List Value} {k:Value→Option R} {other:Option R} {r:R} (h:nanBuiltinE b vs k other=some r):
  other=some r∨∃ v,k v=some r∧∀{ρ:Map} {w:World} {cs:Array Bool} {vs':List Value},VRels ρ vs vs'→∃ v',(builtin b ts ty cs ⟨vs'⟩).run P w=.ok (.value v') w∧VRel ρ v v':=.inl h
open Go.MapKept
def mapMakeE {R:Type} (P:Program) (H:AH) (t:TypeId) (hint:Option Value) (k:Value→AH→Option R):Option R:=none
theorem mapMakeE_sound {R:Type} {P:Program} {lo:Nat} {H:AH} {t:TypeId} {hint:Option Value} {ho:Option Operand} {k:Value→AH→Option R} {r:R} (h:mapMakeE P H t hint k=some r)
  {o:Oper} (hop:o.op=.makeMap t ho):∃ v H',k v H'=some r∧∀{ρ:Map} {w:World} {a:Act},Inv ρ H w→lo≤H.next→ORel ρ hint (ho.map a.eval)→Done P lo o a ρ H w v H':=by cases h
def mapGetE {R:Type} (P:Program) (H:AH) (t:TypeId) (m i:Value) (ok:Bool) (k:Value→Option R):Option R:=none
theorem mapGetE_sound {R:Type} {P:Program} {lo:Nat} {H:AH} {t:TypeId} {m i:Value} {mo io:Operand} {ok:Bool} {k:Value→Option R} {r:R} (h:mapGetE P H t m i ok k=some r)
  {o:Oper} (hop:o.op=.lookup t mo io ok):∃ v,k v=some r∧∀{ρ:Map} {w:World} {a:Act},Inv ρ H w→VRel ρ m (a.eval mo)→VRel ρ i (a.eval io)→Done P lo o a ρ H w v H:=by cases h
def mapPutE {R:Type} (P:Program) (lo:Nat) (H:AH) (t:TypeId) (m i x:Value) (k:AH→Option R):Option R:=none
theorem mapPutE_sound {R:Type} {P:Program} {lo:Nat} {H:AH} {t:TypeId} {m i x:Value} {mo io xo:Operand} {k:AH→Option R} {r:R} (h:mapPutE P lo H t m i x k=some r)
  {o:Oper} (hop:o.op=.mapUpdate t mo io xo∨o.op=.insert t mo io xo):
  ∃ H',k H'=some r∧∀{ρ:Map} {w:World} {a:Act},Inv ρ H w→VRel ρ m (a.eval mo)→VRel ρ i (a.eval io)→VRel ρ x (a.eval xo)→Done P lo o a ρ H w undef H':=by cases h
def append0E {R:Type} (P:Program) (H:AH) (t t':TypeId) (kk:IntKind) (n:Int) (k:Value→AH→Option R):Option R:=none
theorem append0E_sound {R:Type} {P:Program} {lo:Nat} {H:AH} {t t':TypeId} {kk:IntKind} {n:Int} {k:Value→AH→Option R} {r:R} (h:append0E P H t t' kk n k=some r):
  ∃ v H',k v H'=some r∧∀{ρ:Map} {w:World} {ty:TypeId},Inv ρ H w→lo≤H.next→
   ∃ ρ' w' v',(Builtin.append_ ⟨[t,t']⟩ ty #[.slice none 0 0,.int kk n]).run P w=.ok v' w'∧Next lo ρ H w ρ' H' w'∧VRel ρ' v v':=by cases h
def appendInE {R:Type} (P:Program) (lo:Nat) (H:AH) (t t':TypeId) (sd:Addr) (n c:Nat) (ad:Addr) (m:Nat) (k:Value→AH→Option R):Option R:=none
theorem appendInE_sound {R:Type} {P:Program} {lo:Nat} {H:AH} {t t':TypeId} {sd ad:Addr} {n c m cx:Nat} {k:Value→AH→Option R} {r:R} (h:appendInE P lo H t t' sd n c ad m k=some r):
  ∃ v H',k v H'=some r∧∀{ρ:Map} {w:World} {s' x':Value} {ty:TypeId},Inv ρ H w→lo≤H.next→VRel ρ (.slice (some sd) n c) s'→VRel ρ (.slice (some ad) m cx) x'→
   ∃ ρ' w' v',(Builtin.append_ ⟨[t,t']⟩ ty #[s',x']).run P w=.ok v' w'∧Next lo ρ H w ρ' H' w'∧VRel ρ' v v':=by cases h
def forceL {R:Type}:List Value→(List Value→R)→R
 |[],k=>k []
 |v::r,k=>forceL r fun l=>k (v::l)
theorem forceL_eq {R:Type}:∀(l:List Value) (k:List Value→R),forceL l k=k l
 |[],k=>rfl
 |v::r,k=>by unfold forceL;rw[forceL_eq r]
def forceTop {R:Type} (H:AH) (k:AH→R):R:=match H.objs with
 |(j,.cells cs sz)::r=>forceL cs fun cs=>k ⟨H.next,(j,.cells cs sz)::r⟩
 |_=>k H
theorem forceTop_eq {R:Type} (H:AH) (k:AH→R):forceTop H k=k H:=by
 obtain⟨n,O⟩:=H
 unfold forceTop; split
 ·rename_i j cs sz r e
  rw[forceL_eq]
  simp only at e; subst e; rfl
 ·rfl
def append00E {R:Type} (P:Program) (H:AH) (t t':TypeId) (s:Value) (k:Value→AH→Option R):Option R:=none
theorem append00E_sound {R:Type} {P:Program} {lo:Nat} {H:AH} {t t':TypeId} {s:Value} {k:Value→AH→Option R} {r:R} (h:append00E P H t t' s k=some r):
  ∃ v H',k v H'=some r∧∀{ρ:Map} {w:World} {s':Value} {ty:TypeId} {c':Nat},Inv ρ H w→lo≤H.next→VRel ρ s s'→
   ∃ ρ' w' v',(Builtin.append_ ⟨[t,t']⟩ ty #[s',.slice none 0 c']).run P w=.ok v' w'∧Next lo ρ H w ρ' H' w'∧VRel ρ' v v':=by cases h
def appendX {R:Type} (P:Program) (lo:Nat) (H:AH) (ts:List TypeId) (s x:Value) (k:Value→AH→Option R):Option R:=
 match ts,s,x with
 |[t,t'],.slice none 0 0,.int kk n=>append0E P H t t' kk n k
 |[t,t'],s,.slice none 0 0=>append00E P H t t' s k
 |[t,t'],.slice (some sd) n c,.slice (some ad) m _=>bif Nat.blt n c then appendInE P lo H t t' sd n c ad m k else appendE P lo H ts s x fun v H=>forceTop H (k v)
 |_,_,_=>appendE P lo H ts s x fun v H=>forceTop H (k v)
theorem appendX_sound {R:Type} {P:Program} {lo:Nat} {H:AH} {ts:List TypeId} {s x:Value} {k:Value→AH→Option R} {r:R} (h:appendX P lo H ts s x k=some r):
  ∃ v H',k v H'=some r∧∀{ρ:Map} {w:World} {s' x':Value} {ty:TypeId},Inv ρ H w→lo≤H.next→VRel ρ s s'→VRel ρ x x'→
   ∃ ρ' w' v',(Builtin.append_ ⟨ts⟩ ty #[s',x']).run P w=.ok v' w'∧Next lo ρ H w ρ' H' w'∧VRel ρ' v v':=by
 unfold appendX at h; simp only[forceTop_eq]at h; split at h
 ·obtain⟨v,H',h1,h2⟩:=append0E_sound (lo:=lo) h
  refine⟨v,H',h1,fun{ρ w s' x' ty} hi hlo hs hx=>?_⟩
  cases hs
  cases hx
  exact h2 hi hlo
 ·obtain⟨v,H',h1,h2⟩:=append00E_sound (lo:=lo) h
  refine⟨v,H',h1,fun{ρ w s' x' ty} hi hlo hs hx=>?_⟩
  cases hx
  exact h2 hi hlo hs
 ·rename_i t t' sd n c ad m cx; cases hb:Nat.blt n c with
  |true=>
   rw[hb]at h
   exact appendInE_sound h
  |false=>
   rw[hb]at h
   exact appendE_sound h
 ·exact appendE_sound h
def optE (e:Env):Option Operand→Option (Option Value)
 |none=>some none
 |some x=>(opd e x).bind fun v=>some (some v)
theorem optE_rel {ρ:Map} {e:Env} {a:Act} (he:EnvRel ρ e a.tmps) {x:Option Operand} {v:Option Value} (h:optE e x=some v):ORel ρ v (x.map a.eval):=by
 cases x with
 |none=>simp[optE]at h;subst h;exact .none
 |some x=>
  obtain⟨u,h1,h⟩:=bind_some' h
  cases h
  exact .some (opd_rel he h1)
def nanIf {R:Type} (nn:Bool) (f:Option R→Option R) (other:Option R):Option R:=match nn with|true=>f other|false=>other
theorem nanIf_some {R:Type} {nn:Bool} {f:Option R→Option R} {other:Option R} {r:R} (h:nanIf nn f other=some r):other=some r∨f other=some r:=by
 cases nn
 ·exact .inl h
 ·exact .inr h
def evOp {R:Type} (nn:Bool) (fi:Fi) (P:Program) (lo:Nat) (e:Env) (H:AH) (o:Oper) (k:Value→AH→Option R):Option R:=
 match o.op with
 |.move x=>(opd e x).bind fun v=>k v H
 |.assign x=>(opd e x).bind fun v=>k v H
 |.pick c x y=>(opd e c).bind fun c=>pickE c (opd e x) (opd e y) fun v=>k v H
 |.alloc t=>allocE P H t k
 |.box t x=>(opd e x).bind fun v=>newE H v.cells.toList k
 |.build t ps=>(partsE e ps.toList).bind fun vs=>buildE P t vs fun v=>k v H
 |.buildSlice t n ps=>(partsE e ps.toList).bind fun vs=>buildSliceE P H t n vs k
 |.load t x=>(opd e x).bind fun v=>
   match v with
   |.pointer (some ad)=>
    match look ad.block H.objs with
    |some (.cells cs _)=>loadE P t cs ad.off fun v=>k v H
    |_=>none
   |_=>none
 |.store t x y=>(opd e x).bind fun p=>(opd e y).bind fun v=>
   match p with
   |.pointer (some ad)=>storeE P lo H t ad v fun H'=>k undef H'
   |_=>none
 |.nilCheck x=>(opd e x).bind fun v=>nilCheckE v fun v=>k v H
 |.binOp op t x y _=>(opd e x).bind fun u=>(opd e y).bind fun v=>nanIf nn (nanBinE op u v fun v=>k v H) (binE fi op u v (fun v=>k v H) (eqAggE P op t u v (fun v=>k v H) (eqNilE P op t u v (fun v=>k v H) (calmOp P e H o k))))
 |.unOp op t x=>(opd e x).bind fun u=>unE op u (fun v=>k v H) (calmOp P e H o k)
 |.convert s d x=>(opd e x).bind fun u=>convE fi P s d u (fun v=>k v H) (calmOp P e H o k)
 |.makeInterface t x=>(opd e x).bind fun u=>makeIfaceE P t u fun v=>k v H
 |.makeFunc f xs ys=>(opds e xs.toList).bind fun us=>(opds e ys.toList).bind fun vs=>k (.func f ⟨us⟩ ⟨vs⟩) H
 |.makeSlice t l c=>(opd e l).bind fun u=>(opd e c).bind fun v=>makeSliceE P H t u v k
 |.slice t x l h none=>(opd e x).bind fun v=>(optE e l).bind fun l=>(optE e h).bind fun h=>sliceE P H t v l h k
 |.fieldAddr s x f=>(opd e x).bind fun v=>fieldAddrE P s v f fun v=>k v H
 |.field t x f=>(opd e x).bind fun v=>fieldE P t v f fun v=>k v H
 |.indexAddr t x i=>(opd e x).bind fun v=>(opd e i).bind fun i=>indexAddrE P t v i fun v=>k v H
 |.index t x i=>(opd e x).bind fun v=>(opd e i).bind fun i=>match v with
   |.string _=>calmOp P e H o k
   |v=>indexE P t v i fun v=>k v H
 |.typeAssert x _ t c=>(opd e x).bind fun v=>assertE P v t c fun v=>k v H
 |.extract x i=>(opd e x).bind fun v=>extractE v i fun v=>k v H
 |.makeMap t h=>(optE e h).bind fun h=>mapMakeE P H t h k
 |.lookup t x i ok=>(opd e x).bind fun m=>(opd e i).bind fun i=>mapGetE P H t m i ok fun v=>k v H
 |.mapUpdate t x i y=>(opd e x).bind fun m=>(opd e i).bind fun i=>(opd e y).bind fun y=>mapPutE P lo H t m i y fun H'=>k undef H'
 |.insert t x i y=>(opd e x).bind fun m=>(opd e i).bind fun i=>(opd e y).bind fun y=>mapPutE P lo H t m i y fun H'=>k undef H'
 |.call { callee:=.builtin .append,args:=xs,argTypes:=ts }=>(opds e xs.toList).bind fun vs=>
   match vs with
   |[s,x]=>appendX P lo H ts.toList s x k
   |_=>none
 |.call { callee:=.builtin .copy,args:=xs,argTypes:=ts }=>(opds e xs.toList).bind fun vs=>
   match vs with
   |[d,s]=>copyE P lo H ts.toList d s k
   |_=>none
 |.call { callee:=.builtin b,args:=xs,argTypes:=ts }=>(opds e xs.toList).bind fun vs=>nanIf nn (nanBuiltinE b vs fun v=>k v H) (builtinE P b ts vs (fun v=>k v H) (calmOp P e H o k))
 |_=>none
theorem Done.flat {P:Program} {lo:Nat} {o:Oper} {a:Act} {ρ:Map} {H:AH} {w:World} {v:Value} (hi:Inv ρ H w) (hf:flat v=true)
  (hr:(execOp a.eval o).run P w=.ok (.value v) w):Done P lo o a ρ H w v H:=Done.calm hi hr (VRel.ofFlat ρ hf)
theorem evOp_sound {R:Type} {P:Program} {lo:Nat} {e:Env} {H:AH} {o:Oper} {k:Value→AH→Option R} {r:R} {nn:Bool} {fi:Fi} (hfi:fi.Fair) (h:evOp nn fi P lo e H o k=some r):
  ∃ v H',k v H'=some r∧∀{ρ:Map} {w:World} {a:Act},Inv ρ H w→lo≤H.next→EnvRel ρ e a.tmps→Done P lo o a ρ H w v H':=by
 have hcalm:=fun h=>calmOp_sound (lo:=lo) (P:=P) (e:=e) (H:=H) (o:=o) (k:=k) (r:=r) h
 unfold evOp at h; split at h
 ·rename_i x ho
  obtain⟨v,h1,h⟩:=bind_some' h
  exact⟨v,H,h,fun{ρ w a} hi hlo he=>Done.value (w':=w) (by simp[execOp,ho]) (Next.refl hi) (opd_rel he h1)⟩
 ·rename_i x ho
  obtain⟨v,h1,h⟩:=bind_some' h
  exact⟨v,H,h,fun{ρ w a} hi hlo he=>Done.value (w':=w) (by simp[execOp,ho]) (Next.refl hi) (opd_rel he h1)⟩
 ·rename_i c x y ho
  obtain⟨v,h1,h⟩:=bind_some' h
  unfold pickE at h; split at h
  ·rename_i t; have hrun:∀{ρ:Map} {w:World} {a:Act},EnvRel ρ e a.tmps→(execOp a.eval o).run P w=.ok (.value (if t then a.eval x else a.eval y)) w:=fun{ρ w a} he=>by
    have hc:=opd_rel he h1; generalize hec:a.eval c=c' at hc; cases hc; simp[execOp,ho,hec,asBool]
   split at h
   ·rename_i u v hx hy
    refine⟨_,H,h,fun{ρ w a} hi hlo he=>Done.value (w':=w) (hrun he) (Next.refl hi) ?_⟩
    have r1:=opd_rel he hx; have r2:=opd_rel he hy; generalize a.eval x=x' at *
    generalize a.eval y=y' at *
    cases r1;cases r2
    cases t<;>exact .bool _
   ·cases t with
    |true=>
     obtain⟨v,h2,h⟩:=bind_some' (by simpa using h)
     exact⟨v,H,h,fun{ρ w a} hi hlo he=>Done.value (w':=w) (hrun he) (Next.refl hi) (opd_rel he h2)⟩
    |false=>
     obtain⟨v,h2,h⟩:=bind_some' (by simpa using h)
     exact⟨v,H,h,fun{ρ w a} hi hlo he=>Done.value (w':=w) (hrun he) (Next.refl hi) (opd_rel he h2)⟩
  ·cases h
 ·rename_i t ho
  obtain⟨v,H',g1,g2⟩:=allocE_sound (lo:=lo) h ho
  exact⟨v,H',g1,fun hi hlo he=>g2 hi hlo⟩
 ·rename_i t x ho
  obtain⟨v,h1,h⟩:=bind_some' h
  obtain⟨u,H',g1,g2⟩:=boxE_sound (P:=P) (lo:=lo) h ho
  exact⟨u,H',g1,fun hi hlo he=>g2 hi hlo (opd_rel he h1)⟩
 ·rename_i t ps ho
  obtain⟨vs,h1,h⟩:=bind_some' h
  obtain⟨v,g1,g2⟩:=buildE_sound h
  refine⟨v,H,g1,fun{ρ w a} hi hlo he=>?_⟩
  obtain⟨v',g2,g3⟩:=g2 (w:=w) (partsE_rel he h1)
  refine Done.value (w':=w) ?_ (Next.refl hi) g3
  have e1:(ps.map fun(i,x)=>(i,a.eval x))=(ps.toList.map fun(i,x)=>(i,a.eval x)).toArray:=by apply Array.ext';simp
  simp only[execOp,ho,e1,Sem.run_bind,g2,Result.andThen_ok,Sem.run_pure]
 ·rename_i t n ps ho
  obtain⟨vs,h1,h⟩:=bind_some' h
  obtain⟨v,H',g1,g2⟩:=buildSliceE_sound (lo:=lo) h ho
  exact⟨v,H',g1,fun hi hlo he=>g2 hi hlo (partsE_rel he h1)⟩
 ·rename_i t x ho
  obtain⟨v,h1,h⟩:=bind_some' h
  split at h
  ·rename_i ad; split at h
   ·rename_i cs sz hl
    obtain⟨v,g1,g2⟩:=loadE_sound h
    refine⟨v,H,g1,fun{ρ w a} hi hlo he=>?_⟩
    have hx:=opd_rel he h1; generalize hex:a.eval x=x' at hx; cases hx with
    |@ptr kb off sp hk=>
     obtain⟨s,e1,e2⟩:=hi.rel.obj _ _ (look_mem hl)
     rw[hk]at e1
     cases e1
     obtain⟨v',g2,g3⟩:=g2 e2
     exact Done.value (w':=w) (by simp[execOp,ho,hex,Instr.loadAt,Instr.sureAddr,g2]) (Next.refl hi) g3
   ·cases h
  ·cases h
 ·rename_i t x y ho
  obtain⟨p,h1,h⟩:=bind_some' h
  obtain⟨v,h2,h⟩:=bind_some' h
  split at h
  ·rename_i ad
   obtain⟨H',g1,g2⟩:=storeE_sound h
   refine⟨undef,H',g1,fun{ρ w a} hi hlo he=>?_⟩
   have hx:=opd_rel he h1; have hy:=opd_rel he h2; generalize hex:a.eval x=x' at hx; cases hx with
   |@ptr kb off sp hk=>
    obtain⟨w',g2,g3⟩:=g2 hi (.ptr hk) hy
    exact Done.skip (by simp[execOp,ho,hex,Instr.storeAt,Instr.sureAddr,g2]) g3
  ·cases h
 ·rename_i x ho
  obtain⟨v,h1,h⟩:=bind_some' h
  obtain⟨v,g1,g2⟩:=nilCheckE_sound (P:=P) (lo:=lo) (H:=H) h ho
  exact⟨v,H,g1,fun hi hlo he=>g2 hi (opd_rel he h1)⟩
 ·rename_i op t x y yt ho
  obtain⟨u,h1,h⟩:=bind_some' h
  obtain⟨v,h2,h⟩:=bind_some' h
  have rest:binE fi op u v (fun v=>k v H) (eqAggE P op t u v (fun v=>k v H) (eqNilE P op t u v (fun v=>k v H) (calmOp P e H o k)))=some r→
    ∃ v,∃ H',k v H'=some r∧∀{ρ:Map} {w:World} {a:Act},Inv ρ H w→lo≤H.next→EnvRel ρ e a.tmps→Done P lo o a ρ H w v H':=by
   intro h; rcases binE_sound (P:=P) (t:=t) (ox:=x) (oy:=y) hfi h with h|⟨v,g1,g2,g3⟩
   ·rcases eqAggE_sound (P:=P) (ox:=x) (oy:=y) h with h|⟨v,g1,g2,g3⟩
    ·rcases eqNilE_sound (P:=P) (ox:=x) (oy:=y) h with h|⟨v,g1,g2,g3⟩
     ·exact hcalm h
     ·refine⟨v,H,g1,fun{ρ w a} hi hlo he=>Done.flat hi g2 ?_⟩
      simp only[execOp,ho]
      rw[Sem.run_bind,g3 (opd_rel he h1) (opd_rel he h2)]
      rfl
    ·refine⟨v,H,g1,fun{ρ w a} hi hlo he=>Done.flat hi g2 ?_⟩
     simp only[execOp,ho]
     rw[Sem.run_bind,g3 (opd_rel he h1) (opd_rel he h2)]
     rfl
   ·refine⟨v,H,g1,fun{ρ w a} hi hlo he=>Done.flat hi g2 ?_⟩
    simp only[execOp,ho]
    rw[Sem.run_bind,g3 (opd_rel he h1) (opd_rel he h2)]
    rfl
  rcases nanIf_some h with h|h
  ·exact rest h
  ·rcases nanBinE_sound (P:=P) (lo:=lo) (H:=H) ho h with h|⟨v,g1,g2⟩
   ·exact rest h
   ·exact⟨v,H,g1,fun hi hlo he=>g2 hi (opd_rel he h1) (opd_rel he h2)⟩
 ·rename_i op t x ho
  obtain⟨u,h1,h⟩:=bind_some' h
  rcases unE_sound (P:=P) h with h|⟨v,g1,g2,g3⟩
  ·exact hcalm h
  ·exact⟨v,H,g1,fun{ρ w a} hi hlo he=>Done.flat hi g2 (by simp[execOp,ho,g3 (opd_rel he h1)])⟩
 ·rename_i s d x ho
  obtain⟨u,h1,h⟩:=bind_some' h
  rcases convE_sound (P:=P) hfi h with h|⟨v,g1,g2,g3⟩
  ·exact hcalm h
  ·exact⟨v,H,g1,fun{ρ w a} hi hlo he=>Done.flat hi g2 (by simp[execOp,ho,g3 (opd_rel he h1)])⟩
 ·rename_i t x ho
  obtain⟨v,h1,h⟩:=bind_some' h
  obtain⟨v,g1,g2⟩:=makeIfaceE_sound (lo:=lo) (H:=H) h ho
  exact⟨v,H,g1,fun hi hlo he=>g2 hi (opd_rel he h1)⟩
 ·rename_i f xs ys ho
  obtain⟨us,h1,h⟩:=bind_some' h
  obtain⟨vs,h2,h⟩:=bind_some' h
  refine⟨_,H,h,fun{ρ w a} hi hlo he=>Done.value (w':=w) (v':=.func f ⟨xs.toList.map a.eval⟩ ⟨ys.toList.map a.eval⟩) ?_ (Next.refl hi) (.func f (opds_rel he h1) (opds_rel he h2))⟩
  have e1:xs.map a.eval=⟨xs.toList.map a.eval⟩:=by apply Array.ext';simp
  have e2:ys.map a.eval=⟨ys.toList.map a.eval⟩:=by apply Array.ext';simp
  simp[execOp,ho,Instr.makeFunc,e1,e2]
 ·rename_i t l c ho
  obtain⟨u,h1,h⟩:=bind_some' h
  obtain⟨v,h2,h⟩:=bind_some' h
  obtain⟨v,H',g1,g2⟩:=makeSliceE_sound (lo:=lo) h ho
  exact⟨v,H',g1,fun hi hlo he=>g2 hi hlo (opd_rel he h1) (opd_rel he h2)⟩
 ·rename_i t x l hh ho
  obtain⟨v,h1,h⟩:=bind_some' h
  obtain⟨l',h2,h⟩:=bind_some' h
  obtain⟨h',h3,h⟩:=bind_some' h
  obtain⟨v,H',g1,g2⟩:=sliceE_sound (lo:=lo) (H:=H) h ho
  exact⟨v,H',g1,fun hi hlo he=>g2 hi (opd_rel he h1) (optE_rel he h2) (optE_rel he h3)⟩
 ·rename_i s x f ho
  obtain⟨v,h1,h⟩:=bind_some' h
  obtain⟨v,g1,g2⟩:=fieldAddrE_sound (lo:=lo) (H:=H) h ho
  exact⟨v,H,g1,fun hi hlo he=>g2 hi (opd_rel he h1)⟩
 ·rename_i t x f ho
  obtain⟨v,h1,h⟩:=bind_some' h
  obtain⟨v,g1,g2⟩:=fieldE_sound (lo:=lo) (H:=H) h ho
  exact⟨v,H,g1,fun hi hlo he=>g2 hi (opd_rel he h1)⟩
 ·rename_i t x i ho
  obtain⟨v,h1,h⟩:=bind_some' h
  obtain⟨u,h2,h⟩:=bind_some' h
  obtain⟨v,g1,g2⟩:=indexAddrE_sound (lo:=lo) (H:=H) h ho
  exact⟨v,H,g1,fun hi hlo he=>g2 hi (opd_rel he h1) (opd_rel he h2)⟩
 ·rename_i t x i ho
  obtain⟨v,h1,h⟩:=bind_some' h
  obtain⟨u,h2,h⟩:=bind_some' h
  split at h
  ·exact hcalm h
  ·obtain⟨v,g1,g2⟩:=indexE_sound (lo:=lo) (H:=H) h ho
   exact⟨v,H,g1,fun hi hlo he=>g2 hi (opd_rel he h1) (opd_rel he h2)⟩
 ·rename_i x xt t c ho
  obtain⟨v,h1,h⟩:=bind_some' h
  obtain⟨v,g1,g2⟩:=assertE_sound (lo:=lo) (H:=H) h ho
  exact⟨v,H,g1,fun hi hlo he=>g2 hi (opd_rel he h1)⟩
 ·rename_i x i ho
  obtain⟨v,h1,h⟩:=bind_some' h
  obtain⟨v,g1,g2⟩:=extractE_sound (P:=P) (lo:=lo) (H:=H) h ho
  exact⟨v,H,g1,fun hi hlo he=>g2 hi (opd_rel he h1)⟩
 ·rename_i t hh ho
  obtain⟨v,h1,h⟩:=bind_some' h
  obtain⟨v,H',g1,g2⟩:=mapMakeE_sound (lo:=lo) h ho
  exact⟨v,H',g1,fun hi hlo he=>g2 hi hlo (optE_rel he h1)⟩
 ·rename_i t x i ok ho
  obtain⟨m,h1,h⟩:=bind_some' h
  obtain⟨u,h2,h⟩:=bind_some' h
  obtain⟨v,g1,g2⟩:=mapGetE_sound (lo:=lo) h ho
  exact⟨v,H,g1,fun hi hlo he=>g2 hi (opd_rel he h1) (opd_rel he h2)⟩
 ·rename_i t x i y ho
  obtain⟨m,h1,h⟩:=bind_some' h
  obtain⟨u,h2,h⟩:=bind_some' h
  obtain⟨v,h3,h⟩:=bind_some' h
  obtain⟨H',g1,g2⟩:=mapPutE_sound h (.inl ho)
  exact⟨undef,H',g1,fun hi hlo he=>g2 hi (opd_rel he h1) (opd_rel he h2) (opd_rel he h3)⟩
 ·rename_i t x i y ho
  obtain⟨m,h1,h⟩:=bind_some' h
  obtain⟨u,h2,h⟩:=bind_some' h
  obtain⟨v,h3,h⟩:=bind_some' h
  obtain⟨H',g1,g2⟩:=mapPutE_sound h (.inr ho)
  exact⟨undef,H',g1,fun hi hlo he=>g2 hi (opd_rel he h1) (opd_rel he h2) (opd_rel he h3)⟩
 ·rename_i xs ts ho
  obtain⟨vs,h1,h⟩:=bind_some' h
  split at h
  ·rename_i s x
   obtain⟨v,H',g1,g2⟩:=appendX_sound (lo:=lo) h
   refine⟨v,H',g1,fun{ρ w a} hi hlo he=>?_⟩
   have hr:=opds_rel he h1
   obtain⟨cs,hrun⟩:=run_call_builtin (P:=P) (a:=a) (w:=w) ho rfl
   have e1:xs.map a.eval=⟨xs.toList.map a.eval⟩:=by apply Array.ext';simp
   generalize xs.toList.map a.eval=l at *
   cases hr with
   |cons r1 r2=>
    cases r2 with
    |cons r2 r3=>
     cases r3
     obtain⟨ρ',w',v',q1,q2,q3⟩:=g2 (ty:=o.type) hi hlo r1 r2
     refine Done.value ?_ q2 q3
     rw[hrun]
     simp only[e1,builtin,Sem.run_bind]
     rw[show (⟨ts.toList⟩:Array TypeId)=ts from rfl]at q1
     rw[q1]
     rfl
  ·cases h
 ·rename_i xs ts ho
  obtain⟨vs,h1,h⟩:=bind_some' h
  split at h
  ·rename_i s x
   obtain⟨v,H',g1,g2⟩:=copyE_sound (lo:=lo) h
   refine⟨v,H',g1,fun{ρ w a} hi hlo he=>?_⟩
   have hr:=opds_rel he h1
   obtain⟨cs,hrun⟩:=run_call_builtin (P:=P) (a:=a) (w:=w) ho rfl
   have e1:xs.map a.eval=⟨xs.toList.map a.eval⟩:=by apply Array.ext';simp
   generalize xs.toList.map a.eval=l at *
   cases hr with
   |cons r1 r2=>
    cases r2 with
    |cons r2 r3=>
     cases r3
     obtain⟨ρ',w',v',q1,q2,q3⟩:=g2 (ty:=o.type) hi hlo r1 r2
     refine Done.value ?_ q2 q3
     rw[hrun]
     simp only[e1,builtin,Sem.run_bind]
     rw[show (⟨ts.toList⟩:Array TypeId)=ts from rfl]at q1
     rw[q1]
     rfl
  ·cases h
 ·rename_i b xs ts _n1 _n2 ho
  obtain⟨vs,h1,h⟩:=bind_some' h
  have rest:builtinE P b ts vs (fun v=>k v H) (calmOp P e H o k)=some r→
    ∃ v,∃ H',k v H'=some r∧∀{ρ:Map} {w:World} {a:Act},Inv ρ H w→lo≤H.next→EnvRel ρ e a.tmps→Done P lo o a ρ H w v H':=by
   intro h; rcases builtinE_sound (P:=P) (ty:=o.type) h with h|⟨v,g1,g2,g3⟩
   ·exact hcalm h
   ·refine⟨v,H,g1,fun{ρ w a} hi hlo he=>Done.flat hi g2 ?_⟩
    obtain⟨cs,hrun⟩:=run_call_builtin (P:=P) (a:=a) (w:=w) ho rfl
    rw[hrun]
    have e1:xs.map a.eval=⟨xs.toList.map a.eval⟩:=by apply Array.ext';simp
    rw[e1]
    exact g3 (opds_rel he h1)
  rcases nanIf_some h with h|h
  ·exact rest h
  ·rcases nanBuiltinE_sound (P:=P) (ts:=ts) (ty:=o.type) h with h|⟨v,g1,g2⟩
   ·exact rest h
   ·refine⟨v,H,g1,fun{ρ w a} hi hlo he=>?_⟩
    obtain⟨cs,hrun⟩:=run_call_builtin (P:=P) (a:=a) (w:=w) ho rfl
    obtain⟨v',k1,k2⟩:=g2 (w:=w) (cs:=cs) (opds_rel he h1)
    have e1:xs.map a.eval=⟨xs.toList.map a.eval⟩:=by apply Array.ext';simp
    rw[← e1]at k1
    exact Done.value (w':=w) (by rw[hrun];exact k1) (Next.refl hi) k2
 ·cases h
end Go.Vm
