/- A part; no conditions. -/
import Derived.Test.YtaogignikkjkjaaGreatVmC
import Derived.Laws.StructEq
import Derived.ArgAppend
import Derived.MapKept
set_option maxRecDepth 1000000
set_option maxHeartbeats 1000000
set_option linter.all false
open Nat renaming beq->N9,le_refl->L9
open Bool renaming and_eq_true->B9
open Go renaming Value->V9,Program->Q9,World->W9,TypeId->I9,IntKind->K9,Oper->X9,Operand->Y9,execOp->G9,run_underlying->A9,Builtin->u9
namespace Go.Vm
theorem zD{P:Q9}{ρ:Map}{w:W9}{v v':V9}{dflt most most' n:Nat}(hv:dW ρ v v')(hm:most<=most')(h:wA (some v) dflt most=some n)(code:BoundsCode):
  (Instr.sliceBound v' most' code).run P w=.ok n w:=by
 unfold wA at h;split at h;· cases ‹some v=none›
 ·rename_i kk i e;cases e;cases hv;cases hc:(decide (0<=i)&&decide (i<=(most:Int))) with
  |false=>rw[hc]at h;cases h
  |true=>rw[hc]at h;cases h;simp only[B9,decide_eq_true_eq]at hc;unfold Instr.sliceBound;simp only[asIntOf,Sem.run_bind,Sem.run_pure,Result.andThen_ok];rw[if_pos (by omega)];rfl
 ·cases h
theorem sP{P:Q9}{ρ:Map}{w:W9}{lo lo' hi hi':Option V9}{len cap cap' h l:Nat}(hlo:bHb ρ lo lo')(hhi:bHb ρ hi hi')(hc:cap<=cap')(h1:wA hi len cap=some h)(h2:wA lo 0 h=some l):(Instr.sliceBounds true len cap' lo' hi' none).run P w=.ok (l,h,cap') w:=by
 unfold Instr.sliceBounds;cases hhi with
 |none=>
  simp only[wA]at h1;cases h1;cases hlo with
  |none=>simp only[wA]at h2;cases h2;simp
  |some hv=>simp[zD hv (L9 _) h2]
 |some hv=>
  cases hlo with
  |none=>simp only[wA]at h2;cases h2;simp[zD hv hc h1]
  |some hv2=>simp[zD hv hc h1,zD hv2 (L9 _) h2]
theorem Next.note{lo:Nat}{ρ:Map}{H:AH}{w:W9}(hi:Inv ρ H w)(p:aC3):Next lo ρ H w (upd ρ H.next p) ⟨H.next+1,H.objs⟩ w:=by
 have hext:=aF2 hi p;have hat:∀k o,(k,o)∈H.objs->upd ρ H.next p k=ρ k:=λk o hm=>wT (Nat.ne_of_lt (hi.wf k o hm))
 refine
 {inv:=⟨λk hk=>?_,λk o hm=>Nat.lt_succ_of_lt (hi.wf k o hm),hi.one,⟨λk o hm=>?_,λk o k' o' s s' h1 h2 h3 h4 h5=>?_⟩⟩
  same:=λk hk=>wT (Nat.ne_of_lt hk)
  nx:=Nat.le_succ _
  size:=L9 _
  os:=rfl
  tape:=rfl
  output:=rfl
  keep:=λ_ _ _=>rfl
  own:=λk o s hk hm he=>?_
  old:=λ_ _ _=>Iff.rfl }
 ·simp only at hk;rw[wT (by omega)];exact hi.dom k (by omega)
 ·obtain⟨s,h1,h2⟩:=hi.rel.obj k o hm;exact⟨s,hext _ _ h1,h2.mono hext⟩
 ·rw[hat k o h1]at h3;rw[hat k' o' h2]at h4;exact hi.rel.inj k o k' o' s s' h1 h2 h3 h4 h5
 ·rw[hat k o hm]at he;exact .inr ⟨k,o,s,hk,hm,he,rfl⟩
theorem aM7{R:Type}{P:Q9}{lo:Nat}{H:AH}{t:I9}{x:V9}{xo:Y9}{l h:Option Y9}{l' h':Option V9}{k:V9->AH->Option R}{r:R}(hh:bBd P H t x l' h' k=some r){o:X9}(ho:o.op=.slice t xo l h none):
  ∃v H',k v H'=some r/\∀{ρ:Map}{w:W9}{a:Act},Inv ρ H w->dW ρ x (a.eval xo)->bHb ρ l' (l.map a.eval)->bHb ρ h' (h.map a.eval)->lO P lo o a ρ H w v H':=by
 unfold bBd at hh;split at hh
 ·rename_i elem ad n c hu;obtain⟨h0,g1,hh⟩:=aB hh;obtain⟨l0,g2,hh⟩:=aB hh;obtain⟨size,g3,hh⟩:=aB hh;cases hc:((Nat.blt l0 c||N9 l0 0)&&Nat.ble l0 c&&ad.spot.isNone) with
  |false=>
   rw[hc]at hh;simp only[F7]at hh;cases hc2:(N9 l0 c&&N9 h0 l0&&ad.spot.isNone) with
   |false=>rw[hc2]at hh;cases hh
   |true=>
    rw[hc2]at hh;simp only[T7]at hh;simp only[B9,Nat.beq_eq]at hc2;obtain⟨⟨hc1,hc2⟩,hsp⟩:=hc2;refine⟨_,_,hh,λ{ρ w a} hi hx hl hhi=>?_⟩;generalize he:a.eval xo=x' at *
    cases hx with
    |@slice kb off _ _ sp hk=>
     have hb:=sP (P:=P) (w:=w) (cap':=c+sp.x) hl hhi (by omega) g1 g2;refine lO.value (w':=w) (v':=.slice (some ⟨sp.b,(if c+sp.x=l0 then sp.d+off else sp.d+off+l0*size)+0,none⟩) 0 (0+sp.x)) ?_
      (Next.note hi ⟨sp.b,if c+sp.x=l0 then sp.d+off else sp.d+off+l0*size,sp.x⟩) (dW.slice (s:=⟨sp.b,if c+sp.x=l0 then sp.d+off else sp.d+off+l0*size,sp.x⟩) (pA _ _ _))
     simp only[G9,ho,he,Instr.sliceAt,Instr.slice,Sem.run_bind,A9 hu,Result.andThen_ok,Option.map_none,hb,bV g3,Sem.run_pure];congr 3
     ·by_cases h0:c+sp.x=l0
      ·rw[if_pos h0,if_pos h0];simp
      ·rw[if_neg h0,if_neg h0];simp[uQ]
     ·omega
     ·omega
  |true=>
   rw[hc]at hh;simp only[T7]at hh;simp only[B9,Bool.or_eq_true,Nat.blt_eq,Nat.beq_eq,Nat.ble_eq]at hc;obtain⟨⟨hc1,hc2⟩,hsp⟩:=hc;refine⟨_,_,hh,λ{ρ w a} hi hx hl hhi=>?_⟩;generalize he:a.eval xo=x' at *
   cases hx with
   |@slice kb off _ _ sp hk=>
    refine lO.value (w':=w) (v':=.slice (some ⟨sp.b,sp.d+(off+l0*size),none⟩) (h0-l0) (c-l0+sp.x)) ?_ (Next.refl hi) (dW.slice hk);have hb:=sP (P:=P) (w:=w) (cap':=c+sp.x) hl hhi (by omega) g1 g2;simp only[G9,ho,he,Instr.sliceAt,Instr.slice,Sem.run_bind,A9 hu,Result.andThen_ok,Option.map_none,hb,bV g3,Sem.run_pure];congr 3
    ·by_cases h0:c+sp.x=l0
     ·rw[if_pos h0];have:l0=0:=by omega
      subst this;simp
     ·rw[if_neg h0];simp[uQ,Nat.add_assoc]
    ·omega
 ·rename_i elem n c hu;obtain⟨h0,g1,hh⟩:=aB hh;obtain⟨l0,g2,hh⟩:=aB hh;obtain⟨size,g3,hh⟩:=aB hh;refine⟨_,_,hh,λ{ρ w a} hi hx hl hhi=>?_⟩;generalize he:a.eval xo=x' at *
  cases hx with
  |nilSlice=>refine lO.value (w':=w) ?_ (Next.refl hi) (dW.nilSlice _ _);have hb:=sP (P:=P) (w:=w) (cap':=c) hl hhi (by omega) g1 g2;simp only[G9,ho,he,Instr.sliceAt,Instr.slice,Sem.run_bind,A9 hu,Result.andThen_ok,Option.map_none,hb,bV g3,Sem.run_pure];congr 3;split<;>simp
 ·cases hh
theorem aU0(l:List V9)(a n:Nat):(⟨l⟩:Array V9).extract a (a+n)=⟨(l.drop a).take n⟩:=by apply Array.ext';simp[List.extract_eq_take_drop]
theorem aTp{R:Type}{P:Q9}{t:I9}{cs:List V9}{off:Nat}{k:V9->Option R}{r:R}(h:aCx P t cs off k=some r):
  ∃v,k v=some r/\∀{ρ:Map}{w:W9}{cs':List V9},cF ρ cs cs'->∃v',(part t ⟨cs'⟩ off).run P w=.ok v' w/\dW ρ v v':=by
 unfold aCx at h;cases hrow:aCd P t with
 |true=>
  simp only[hrow,T7]at h;cases hlen:Nat.ble (off+P.cellsOf t) cs.length && !N9 (P.cellsOf t) 0 with
  |false=>simp[hlen]at h
  |true=>
   simp only[hlen,T7]at h;simp only[B9,Nat.ble_eq,Bool.not_eq_true']at hlen;have hz:P.cellsOf t≠0:=λe=>by have:=hlen.2;simp[e]at this
   have hd:∃d,P.underlying t=some d/\d.isRow=true:=by
    unfold aCd at hrow;split at hrow;· exact⟨_,‹_›,rfl⟩
    ·exact⟨_,‹_›,rfl⟩
    ·cases hrow
   obtain⟨d0,hu,hd0⟩:=hd;refine⟨_,h,λ{ρ w cs'} hc=>?_⟩;have hagg:(isAgg t).run P w=.ok true w:=by unfold isAgg;rw[Sem.run_bind,A9 hu w];cases d0<;>simp_all
   have hsz:(sizeOf t).run P w=.ok (P.cellsOf t) w:=by
    have:=uX hz;cases hq:P.info? t with
    |none=>simp[hq]at this
    |some i=>simp[hq]at this;simp[sizeOf,typeInfo,hq,this]
   refine⟨.agg ⟨(cs'.drop off).take (P.cellsOf t)⟩,?_,.agg ((hc.drop off).take _)⟩;simp only[part,Sem.run_bind,hagg,Result.andThen_ok,if_true,hsz,Sem.run_pure,aU0]
 |false=>
  simp only[hrow,F7]at h;cases hu:P.underlying t with
  |none=>simp[hu]at h
  |some d0=>
   simp only[hu,Option.isSome_some,T7]at h;obtain⟨v,h1,h2⟩:=aB h;refine⟨v,h2,λ{ρ w cs'} hc=>?_⟩;obtain⟨v',h3,h4⟩:=hc.get off h1;have hagg:(isAgg t).run P w=.ok false w:=by unfold isAgg;rw[Sem.run_bind,A9 hu w];unfold aCd at hrow;rw[hu]at hrow;cases d0<;>simp_all
   refine⟨v',?_,h4⟩;simp[part,hagg,h3]
def aYh{R:Type}(P:Q9)(t:I9)(x:V9)(f:Nat)(k:KVO R):Option R:=
 match P.underlying t,x with
 |some (.struct fields),.agg ⟨cs⟩=>
  match fields[f]? with
  |some fd=>aCx P fd.type cs fd.offset k
  |none=>none
 |_,_=>none
theorem aL2{R:Type}{P:Q9}{lo:Nat}{H:AH}{t:I9}{x:V9}{xo:Y9}{f:Nat}{k:V9->Option R}{r:R}(h:aYh P t x f k=some r){o:X9}(ho:o.op=.field t xo f):∃v,k v=some r/\∀{ρ:Map}{w:W9}{a:Act},Inv ρ H w->dW ρ x (a.eval xo)->lO P lo o a ρ H w v H:=by
 unfold aYh at h;split at h
 ·rename_i fields cs hu;split at h
  ·rename_i fd hfd;obtain⟨v,h1,h2⟩:=aTp h;refine⟨v,h1,λ{ρ w a} hi hx=>?_⟩;generalize he:a.eval xo=x' at *
   cases hx with
   |agg hc=>obtain⟨v',h2,h3⟩:=h2 (w:=w) hc;refine lO.value (w':=w) ?_ (Next.refl hi) h3;simp only[G9,ho,he,Instr.field,Sem.run_bind,A9 hu,Result.andThen_ok,hfd,asAgg,Sem.run_pure,h2]
  ·cases h
 ·cases h
def aY3{R:Type}(P:Q9)(t:I9)(x i:V9)(k:KVO R):Option R:=
 match P.underlying t,x,i with
 |some (.array len elem),.agg ⟨cs⟩,.int _ i=>
  bif decide (0<=i)&&decide (i<len) then(calm P (sizeOf elem)).bind λn=>aCx P elem cs (i.toNat*n) k else none
 |_,_,_=>none
theorem aMa{R:Type}{P:Q9}{lo:Nat}{H:AH}{t:I9}{x i:V9}{xo io:Y9}{k:V9->Option R}{r:R}(h:aY3 P t x i k=some r){o:X9}(ho:o.op=.index t xo io):∃v,k v=some r/\∀{ρ:Map}{w:W9}{a:Act},Inv ρ H w->dW ρ x (a.eval xo)->dW ρ i (a.eval io)->lO P lo o a ρ H w v H:=by
 unfold aY3 at h;split at h
 ·rename_i len elem cs kk i hu;cases hc:(decide (0<=i)&&decide (i<(len:Int))) with
  |false=>rw[hc]at h;cases h
  |true=>
   rw[hc]at h;simp only[T7]at h;simp only[B9,decide_eq_true_eq]at hc;obtain⟨n,h1,h⟩:=aB h;obtain⟨v,g1,g2⟩:=aTp h;refine⟨v,g1,λ{ρ w a} hi hx hy=>?_⟩;generalize he:a.eval xo=x' at *
   generalize he2:a.eval io=i' at *
   cases hx with
   |agg hcs=>cases hy;obtain⟨v',g2,g3⟩:=g2 (w:=w) hcs;refine lO.value (w':=w) ?_ (Next.refl hi) g3;simp only[G9,ho,he,he2,Instr.index,Sem.run_bind,A9 hu,Result.andThen_ok,asIntOf,Sem.run_pure];rw[if_pos hc];simp only[Sem.run_bind,bV h1,Result.andThen_ok,g2,Sem.run_pure]
 ·cases h
def aIt{R:Type}(x:V9)(i:Nat)(k:KVO R):Option R:=
 match x with
 |.tuple ⟨cs⟩=>(cs[i]?).bind k
 |_=>none
theorem aGk{R:Type}{P:Q9}{lo:Nat}{H:AH}{x:V9}{xo:Y9}{i:Nat}{k:V9->Option R}{r:R}(h:aIt x i k=some r){o:X9}(ho:o.op=.extract xo i):∃v,k v=some r/\∀{ρ:Map}{w:W9}{a:Act},Inv ρ H w->dW ρ x (a.eval xo)->lO P lo o a ρ H w v H:=by
 unfold aIt at h;split at h
 ·rename_i cs;obtain⟨v,h1,h⟩:=aB h;refine⟨v,h,λ{ρ w a} hi hx=>?_⟩;generalize he:a.eval xo=x' at *
  cases hx with
  |tuple hc=>obtain⟨v',h3,h4⟩:=hc.get i h1;refine lO.value (w':=w) ?_ (Next.refl hi) h4;simp[G9,ho,he,Instr.extract,h3]
 ·cases h
def aBm{R:Type}(P:Q9)(t:I9)(x:V9)(k:KVO R):Option R:=
 match P.underlying t with
 |some (.interface _)=>none
 |some _=>k (.iface t x)
 |none=>none
theorem aCy{R:Type}{P:Q9}{lo:Nat}{H:AH}{t:I9}{x:V9}{xo:Y9}{k:V9->Option R}{r:R}(h:aBm P t x k=some r){o:X9}(ho:o.op=.makeInterface t xo):∃v,k v=some r/\∀{ρ:Map}{w:W9}{a:Act},Inv ρ H w->dW ρ x (a.eval xo)->lO P lo o a ρ H w v H:=by
 unfold aBm at h;split at h;· cases h
 ·rename_i d hne hu;refine⟨_,h,λ{ρ w a} hi hx=>lO.value (w':=w) (v':=.iface t (a.eval xo)) ?_ (Next.refl hi) (.iface t hx)⟩;have:(Instr.makeInterface t (a.eval xo)).run P w=.ok (.iface t (a.eval xo)) w:=by unfold Instr.makeInterface;rw[Sem.run_bind,A9 hu];cases d<;>first|rfl|exact absurd rfl (hne _)
  simp[G9,ho,this]
 ·cases h
def aN4{R:Type}(P:Q9)(x:V9)(t:I9)(commaOk:Bool)(k:KVO R):Option R:=
 match P.underlying t,x with
 |some (.interface _),_=>none
 |some _,.iface u v=>
  bif N9 u t then k (bif commaOk then .tuple #[v,.bool true] else v)
  else bif commaOk then(calm P (zeroValue t)).bind λz=>bif flat z then k (.tuple #[z,.bool false]) else none
  else none
 |_,_=>none
theorem aIc{R:Type}{P:Q9}{lo:Nat}{H:AH}{xt t:I9}{x:V9}{xo:Y9}{c:Bool}{k:V9->Option R}{r:R}(h:aN4 P x t c k=some r){o:X9}(ho:o.op=.typeAssert xo xt t c):∃v,k v=some r/\∀{ρ:Map}{w:W9}{a:Act},Inv ρ H w->dW ρ x (a.eval xo)->lO P lo o a ρ H w v H:=by
 unfold aN4 at h;split at h;· cases h
 ·rename_i d u v hne hu;cases hb:N9 u t with
  |true=>
   rw[hb]at h;have:=gO hb;subst this;refine⟨_,h,λ{ρ w a} hi hx=>?_⟩;generalize he:a.eval xo=x' at *
   cases hx with
   |iface _ hv=>
    rename_i v';have hrun:(Instr.typeAssert (.iface u v') xt u c).run P w=.ok (if c then .tuple #[v',.bool true] else v') w:=by unfold Instr.typeAssert;rw[Sem.run_bind,A9 hu];cases d<;>first|exact absurd rfl (hne _)|simp
    cases c with
    |true=>exact lO.value (w':=w) (by simp[G9,ho,he,hrun]) (Next.refl hi) (.tuple (.cons hv (.cons (.bool _) .nil)))
    |false=>exact lO.value (w':=w) (by simp[G9,ho,he,hrun]) (Next.refl hi) hv
  |false=>
   rw[hb]at h;cases c with
   |false=>cases h
   |true=>
    simp only[T7,F7]at h;obtain⟨z,h1,h⟩:=aB h;cases hf:flat z with
    |false=>rw[hf]at h;cases h
    |true=>
     rw[hf]at h;refine⟨_,h,λ{ρ w a} hi hx=>?_⟩;generalize he:a.eval xo=x' at *
     cases hx with
     |iface _ hv=>
      rename_i v';refine lO.value (w':=w) (v':=.tuple #[z,.bool false]) ?_ (Next.refl hi) (.tuple (.cons (dW.ofFlat ρ hf) (.cons (.bool _) .nil)));have hne':u≠t:=λe=>by subst e;simp at hb
      have hrun:(Instr.typeAssert (.iface u v') xt t true).run P w=.ok (.tuple #[z,.bool false]) w:=by unfold Instr.typeAssert;rw[Sem.run_bind,A9 hu];cases d<;>first|exact absurd rfl (hne _)|simp[hne',bV h1]
      simp[G9,ho,he,hrun]
 ·cases h
def aE4{R:Type}(x:V9)(k:KVO R):Option R:=
 match x with
 |.pointer (some _)=>k x
 |.func (.func _) _ _=>k x
 |_=>none
theorem aE5{R:Type}{P:Q9}{lo:Nat}{H:AH}{x:V9}{xo:Y9}{k:V9->Option R}{r:R}(h:aE4 x k=some r){o:X9}(ho:o.op=.nilCheck xo):∃v,k v=some r/\∀{ρ:Map}{w:W9}{a:Act},Inv ρ H w->dW ρ x (a.eval xo)->lO P lo o a ρ H w v H:=by
 unfold aE4 at h;split at h
 ·refine⟨_,h,λ{ρ w a} hi hx=>?_⟩;generalize he:a.eval xo=x' at *
  cases hx with
  |ptr hk=>exact lO.value (w':=w) (by simp[G9,ho,he]) (Next.refl hi) (.ptr hk)
 ·refine⟨_,h,λ{ρ w a} hi hx=>?_⟩;generalize he:a.eval xo=x' at *
  cases hx with
  |func _ ha hb=>exact lO.value (w':=w) (by simp[G9,ho,he]) (Next.refl hi) (.func _ ha hb)
 ·cases h
def unE{R:Type}(op:UnOp)(x:V9)(k:KVO R)(other:Option R):Option R:=
 match op,x with
 |.neg,.float .f64 b=>bH (Op.negFloat .f64 b) λn=>k (.float .f64 n)
 |.not,.bool b=>k (.bool (!b))
 |_,_=>other
theorem bCj{R:Type}{P:Q9}{op:UnOp}{x:V9}{k:V9->Option R}{other:Option R}{r:R}(h:unE op x k other=some r):
  other=some r\/∃v,k v=some r/\flat v=true/\∀{ρ:Map}{w:W9}{x':V9},dW ρ x x'->(Op.unary op x').run P w=.ok v w:=by
 unfold unE at h;split at h;· rw[cB]at h;exact .inr ⟨_,h,rfl,λhx=>by cases hx;rfl⟩
 ·exact .inr ⟨_,h,rfl,λhx=>by cases hx;rfl⟩
 ·exact .inl h
def bKu{R:Type}(fi:Fi)(P:Q9)(s d:I9)(x:V9)(k:KVO R)(other:Option R):Option R:=
 bif(P.underlying s).isSome then
  match P.underlying d,x with
  |some (.int kk),.int _ n=>fi R (kk.wrap n) λn=>k (.int kk n)
  |some (.float .f64),.int _ n=>bH (floatOfInt .f64 n) λb=>k (.float .f64 b)
  |some (.int kk),.float .f64 b=>(floatToIntVal .f64 b kk).bind λn=>fi R n λn=>k (.int kk n)
  |_,_=>other
 else other
theorem aN9{R:Type}{P:Q9}{s d:I9}{x:V9}{k:V9->Option R}{other:Option R}{r:R}{fi:Fi}(hfi:fi.Fair)(h:bKu fi P s d x k other=some r):
  other=some r\/∃v,k v=some r/\flat v=true/\∀{ρ:Map}{w:W9}{x':V9},dW ρ x x'->(convert s d x').run P w=.ok v w:=by
 unfold bKu at h;cases hs:(P.underlying s).isSome with
 |false=>rw[hs]at h;exact .inl h
 |true=>
  rw[hs]at h;simp only[T7]at h;obtain⟨u,hu⟩:=Option.isSome_iff_exists.1 hs;split at h;· rename_i kk k2 n hd;rw[hfi]at h;refine .inr ⟨_,h,rfl,λ{ρ w x'} hx=>?_⟩;cases hx;cases u<;>simp[convert,A9 hu,A9 hd,Conv.intToInt]
  ·rename_i k2 n hd;rw[cB]at h;refine .inr ⟨_,h,rfl,λ{ρ w x'} hx=>?_⟩;cases hx;cases u<;>simp[convert,A9 hu,A9 hd,Conv.intToFloat]<;>rfl
  ·rename_i kk b hd;obtain⟨n,h1,h⟩:=aB h;rw[hfi]at h;exact .inr ⟨_,h,rfl,λ{ρ w x'} hx=>by cases hx;exact run_convert_float_int w s d .f64 kk b n hs hd h1⟩
  ·exact .inl h
def bUp{R:Type}(c:V9)(x y:Option V9)(k:KVO R):Option R:=
 match c with
 |.bool t=>
  match x,y with
  |some (.bool u),some (.bool v)=>k (.bool (bif t then u else v))
  |_,_=>bif t then x.bind k else y.bind k
 |_=>none
def aC4{R:Type}(P:Q9)(b:u9)(ts:Array I9)(vs:List V9)(k:KVO R)(other:Option R):Option R:=
 match b,vs with
 |.real,[.complex .f64 re im]=>k (.float .f64 re)
 |.imag,[.complex .f64 re im]=>k (.float .f64 im)
 |.complex,[.float .f64 re,.float .f64 im]=>k (.complex .f64 re im)
 |.len,[.slice a n c]=>
  match ts[0]? with
  |some t=>
   match P.underlying t with
   |some (.slice _)=>k (.int .i64 n)
   |_=>none
  |none=>none
 |_,_=>other
theorem aGh{R:Type}{P:Q9}{b:u9}{ts:Array I9}{ty:I9}{vs:List V9}{k:V9->Option R}{other:Option R}{r:R}(h:aC4 P b ts vs k other=some r):
  other=some r\/∃v,k v=some r/\flat v=true/\∀{ρ:Map}{w:W9}{cs:Array Bool}{vs':List V9},cF ρ vs vs'->(builtin b ts ty cs ⟨vs'⟩).run P w=.ok (.value v) w:=by
 unfold aC4 at h;split at h;· refine .inr ⟨_,h,rfl,λ{ρ w cs vs'} hx=>?_⟩;obtain _|⟨h1,h2⟩:=hx;cases h1;cases h2;rfl
 ·refine .inr ⟨_,h,rfl,λ{ρ w cs vs'} hx=>?_⟩;obtain _|⟨h1,h2⟩:=hx;cases h1;cases h2;rfl
 ·refine .inr ⟨_,h,rfl,λ{ρ w cs vs'} hx=>?_⟩;obtain _|⟨h1,h2⟩:=hx;obtain _|⟨h2,h3⟩:=h2;cases h1;cases h2;cases h3;simp only[builtin,Sem.run_bind,run_complex,Result.andThen_ok,Sem.run_pure]
 ·rename_i a n c;split at h
  ·rename_i t ht;split at h
   ·rename_i e hu;refine .inr ⟨_,h,rfl,λ{ρ w cs vs'} hx=>?_⟩;obtain _|⟨h1,h2⟩:=hx;cases h2;cases h1<;>simp[builtin,u9.len_,ht,A9 hu,goInt]
   ·cases h
  ·cases h
 ·exact .inl h
theorem nJ{P:Q9}{a:Act}{o:X9}{c:Call}{b:u9}{w:W9}(ho:o.op=.call c)(hc:c.callee=.builtin b):
  ∃cs,(G9 a.eval o).run P w=(builtin b c.argTypes o.type cs (c.args.map a.eval)).run P w:=by
 refine⟨c.args.map λ| .const _=>true|_=>false,?_⟩;simp only[G9,ho,resolve,hc,invoke,Sem.run_bind,Sem.run_pure,Result.andThen_ok];rfl
def aXq{R:Type}(P:Q9)(op:BinOp)(t:I9)(x y:V9)(k:KVO R)(other:Option R):Option R:=other
theorem aLy{R:Type}{P:Q9}{op:BinOp}{t:I9}{ox oy:Y9}{x y:V9}{k:V9->Option R}{other:Option R}{r:R}(h:aXq P op t x y k other=some r):
  other=some r\/∃v,k v=some r/\flat v=true/\∀{ρ:Map}{w:W9}{x' y':V9},dW ρ x x'->dW ρ y y'->((do eqGuard op t ox oy x' y';binOp op t x' y'):Sem V9).run P w=.ok v w:=.inl h
def aJp(H:AH)(size:Nat)(ad:Addr)(m:Nat):Option (List V9):=
 match aCg ad.block H.objs with
 |some (.cells cs _)=>bif ad.spot.isNone&&N9 ((cs.drop ad.off).take (m*size)).length (m*size) then some ((cs.drop ad.off).take (m*size)) else none
 |_=>none
theorem aE2{H:AH}{size m:Nat}{ad:Addr}{l:List V9}(h:aJp H size ad m=some l):l.length=m*size/\
  ∀{ρ:Map}{w:W9}{s:aC3},Inv ρ H w->ρ ad.block=some s->∃l',cF ρ l l'/\l'.length=m*size/\∀j v,l'[j]?=some v->w.cell? ((⟨s.b,s.d+ad.off,none⟩:Addr).add j)=some v:=by
 unfold aJp at h;split at h
 ·rename_i cs sz hl;cases hc:(ad.spot.isNone&&N9 ((cs.drop ad.off).take (m*size)).length (m*size)) with
  |false=>rw[hc]at h;cases h
  |true=>
   rw[hc]at h;cases h;simp only[B9,Nat.beq_eq]at hc;refine⟨hc.2,λ{ρ w s} hi hs=>?_⟩;obtain⟨s2,e1,e2⟩:=hi.rel.obj ad.block _ (kS hl);rw[hs]at e1;cases e1;obtain⟨arr,ty,cs',⟨⟨fr,hb⟩,_⟩,hr,hcc,_,_⟩:=e2;have hr2:=(hr.drop ad.off).take (m*size);refine⟨(cs'.drop ad.off).take (m*size),hr2,by rw[hr2.length];exact hc.2,λj v hv=>?_⟩;rw[List.getElem?_take]at hv;split at hv;· rw[List.getElem?_drop]at hv;have:=hcc _ v hv;rw[uQ];simp[W9.cell?,hb,Nat.add_assoc,this]
   ·cases hv
 ·cases h
def aA5{R:Type}(P:Q9)(lo:Nat)(H:AH)(ts:List I9)(s x:V9)(k:V9->AH->Option R):Option R:=
 match ts with
 |[t,t']=>bif N9 t t' then
  match P.underlying t with
  |some (.slice e)=>
   match P.info? e with
   |some i=>
    match i.zero with
    |some z=>
     bif Nat.blt 0 i.size&&N9 z.cells.size i.size then
      match x with
      |.slice (some ad) m _=>
       (aJp H i.size ad m).bind λnews=>
        bif Nat.blt 0 m&&mK news then
         match s with
         |.slice none 0 0=>
          bif Nat.ble (m*i.bytes) 140737488355328&&Nat.ble m 1099511627776 then k (.slice (some ⟨H.next,0,none⟩) m m) (H.push (.cells news i.size)) else none
         |.slice (some sd) n c=>
          match aCg sd.block H.objs with
          |some (.cells cs sz)=>
           (aJp H i.size sd n).bind λolds=>
            bif N9 n c&&Nat.ble ((n+m)*i.bytes) 140737488355328&&Nat.ble (n+m) 1099511627776 then
             bif N9 sz 0 then k (.slice (some ⟨H.next,0,none⟩) (n+m) (n+m)) (H.push (.cells (olds++news) i.size))
             else bif N9 sz i.size&&N9 sd.off 0&&N9 cs.length (n*i.size)&&Nat.ble lo sd.block then
              k (.slice (some ⟨H.next,0,none⟩) (n+m) (n+m)) ⟨H.next+1,(H.next,.cells (olds++news) i.size)::drop sd.block H.objs⟩
             else none
            else none
          |_=>none
         |_=>none
        else none
      |_=>none
     else none
    |none=>none
   |none=>none
  |_=>none
  else none
 |_=>none
theorem bL2{P:Q9}{lo:Nat}{ρ:Map}{H:AH}{w:W9}(hi:Inv ρ H w)(hlo:lo<=H.next){l l':List V9}{size need cap:Nat}(hl:cF ρ l l')(hll:l'.length=need*size)(hs:0<size)(hc:need<=cap){z:Array V9}(hz:z.size=size){arr:Array V9}(harr:arr.toList=l'++(u9.zeroCells z (cap-need)).toList)(e:I9):
  Next lo ρ H w (upd ρ H.next ⟨w.heap.size,0,cap-need⟩) (H.push (.cells l size)) (w.drew.alloc (.cells arr e))/\
   dW (upd ρ H.next ⟨w.heap.size,0,cap-need⟩) (.slice (some ⟨H.next,0,none⟩) need need) (.slice (some ⟨w.heap.size,0,none⟩) need cap):=by
 have hn:Next lo ρ H w ρ H w.drew:=Next.draw hi;have hlen:=hl.length;have hsz:arr.size=l'.length+(cap-need)*size:=by have:=congrArg List.length harr;rw[List.length_append]at this;simp only[Array.length_toList,size_zeroCells,hz]at this;exact this
 constructor
 ·refine hn.trans (Next.alloc (w:=w.drew) hn.inv hlo _ _ (cap-need) ⟨arr,e,l',?_,hl.mono (aF2 hi _),λi v hv=>?_,?_,λh=>absurd h (by omega)⟩)
  ·refine aV8.fresh ?_ _ _;show(w.heap.push _)[w.heap.size]?=_;simp
  ·have:arr.toList[i]?=some v:=by rw[harr,List.getElem?_append_left (List.getElem?_eq_some_iff.1 hv).1];exact hv
   simpa using this
  ·simp only[Nat.zero_add];omega
 ·have:=dW.slice (ρ:=upd ρ H.next ⟨w.heap.size,0,cap-need⟩) (k:=H.next) (o:=0) (n:=need) (c:=need) (s:=⟨w.heap.size,0,cap-need⟩) (pA _ _ _);simp only[Nat.zero_add]at this;rw[show need+(cap-need)=cap by omega]at this;exact this
theorem zC{R:Type}{P:Q9}{lo:Nat}{H:AH}{ts:List I9}{s x:V9}{k:V9->AH->Option R}{r:R}(h:aA5 P lo H ts s x k=some r):
  ∃v H',k v H'=some r/\∀{ρ:Map}{w:W9}{s' x':V9}{ty:I9},Inv ρ H w->lo<=H.next->dW ρ s s'->dW ρ x x'->
   ∃ρ' w' v',(u9.append_ ⟨ts⟩ ty #[s',x']).run P w=.ok v' w'/\Next lo ρ H w ρ' H' w'/\dW ρ' v v':=by
 unfold aA5 at h;split at h
 case h_2=>cases h
 rename_i t t';cases htt:N9 t t' with
 |false=>rw[htt]at h;cases h
 |true=>
 rw[htt]at h;have:=gO htt;subst this;simp only[T7]at h;split at h
 case h_2=>cases h
 rename_i e hu;split at h
 case h_2=>cases h
 rename_i i hi;split at h
 case h_2=>cases h
 rename_i z hz;cases hsz:(Nat.blt 0 i.size&&N9 z.cells.size i.size) with
 |false=>rw[hsz]at h;cases h
 |true=>
 rw[hsz]at h;simp only[B9,Nat.blt_eq,Nat.beq_eq]at hsz;simp only[T7]at h;split at h
 case h_2=>cases h
 rename_i ad m cx;obtain⟨news,hnews,h⟩:=aB h;obtain⟨nl,nsound⟩:=aE2 hnews;cases hm:(Nat.blt 0 m&&mK news) with
 |false=>rw[hm]at h;cases h
 |true=>
 rw[hm]at h;simp only[B9,Nat.blt_eq]at hm;simp only[T7]at h;split at h
 ·cases hb:(Nat.ble (m*i.bytes) 140737488355328&&Nat.ble m 1099511627776) with
  |false=>rw[hb]at h;cases h
  |true=>
   rw[hb]at h;simp only[B9,Nat.ble_eq]at hb;refine⟨_,_,h,λ{ρ w s' x' ty} hinv hlo hs hx=>?_⟩;cases hs;cases hx with
   |@slice kb off _ _ sp hsp=>obtain⟨news',g1,g2,g3⟩:=nsound hinv hsp;have hrun:=run_append_nil (P:=P) (w:=w) t ty e i z hu hi hz ⟨sp.b,sp.d+off,none⟩ m (cx+sp.x) news' g2 g3 (by omega) (by omega) (by omega);have hge:=grownCap_ge w m 0 e;obtain⟨q1,q2⟩:=bL2 (P:=P) (lo:=lo) hinv hlo g1 g2 hsz.1 hge hsz.2 (arr:=news'.toArray++u9.zeroCells z.cells (grownCap w m 0 e-m)) (by simp) e;exact⟨_,_,_,hrun,q1,q2⟩
 ·rename_i sd n c _hh;split at h
  case h_2=>cases h
  rename_i cs sz hl;obtain⟨olds,holds,h2⟩:=aB h;clear h;obtain⟨ol,osound⟩:=aE2 holds;cases hb:(N9 n c&&Nat.ble ((n+m)*i.bytes) 140737488355328&&Nat.ble (n+m) 1099511627776) with
  |false=>rw[hb]at h2;cases h2
  |true=>
   rw[hb]at h2;simp only[B9,Nat.ble_eq,Nat.beq_eq]at hb;obtain⟨⟨rfl,b1⟩,b2⟩:=hb;simp only[T7]at h2;have growRun:∀{ρ:Map}{w:W9}{ty:I9}{news' olds':List V9}{bs bx:Addr}{cap cx':Nat},olds'.length=n*i.size->(∀j v,olds'[j]?=some v->w.cell? (bs.add j)=some v)->
     news'.length=m*i.size->(∀j v,news'[j]?=some v->w.cell? (bx.add j)=some v)->cap<n+m->
     (u9.append_ ⟨[t,t]⟩ ty #[.slice (some bs) n cap,.slice (some bx) m cx']).run P w =
      .ok (.slice (some ⟨w.heap.size,0,none⟩) (n+m) (grownCap w (n+m) cap e)) (w.drew.alloc (.cells (olds'.toArray++news'.toArray++u9.zeroCells z.cells (grownCap w (n+m) cap e-(n+m))) e)):=
    λ{ρ w ty news' olds' bs bx cap cx'} h1 h2 h3 h4 h5=>run_append_grow (P:=P) w t ty e i z hu hi hz bs n cap olds' h1 h2 bx m cx' news' h3 h4 h5 (by omega) (growslice_fits h5 b1)
   cases hz0:N9 sz 0 with
   |true=>
    rw[hz0]at h2;have hz0':=gO hz0;refine⟨_,_,h2,λ{ρ w s' x' ty} hinv hlo hs hx=>?_⟩;cases hs with
    |@slice ks os _ _ ss hss=>
    cases hx with
    |@slice kb off _ _ sp hsp=>
     obtain⟨news',g1,g2,g3⟩:=nsound hinv hsp;obtain⟨olds',k1,k2,k3⟩:=osound hinv hss;obtain⟨s2,e1,e2⟩:=hinv.rel.obj ks _ (kS hl);rw[hss]at e1;cases e1;obtain⟨_,_,_,_,_,_,_,hx0⟩:=e2;have hx0':=hx0 hz0';have hrun:=growRun (ρ:=ρ) (w:=w) (ty:=ty) (cap:=n+ss.x) (cx':=cx+sp.x) k2 k3 g2 g3 (by omega);have hge:=grownCap_ge w (n+m) (n+ss.x) e;obtain⟨q1,q2⟩:=bL2 (P:=P) (lo:=lo) hinv hlo (k1.append g1) (need:=n+m) (size:=i.size) (by rw[List.length_append,k2,g2,Nat.add_mul]) hsz.1 hge hsz.2
      (arr:=olds'.toArray++news'.toArray++u9.zeroCells z.cells (grownCap w (n+m) (n+ss.x) e-(n+m))) (by simp) e
     exact⟨_,_,_,hrun,q1,q2⟩
   |false=>
    rw[hz0]at h2;simp only[F7]at h2;cases hq:(N9 sz i.size&&N9 sd.off 0&&N9 cs.length (n*i.size)&&Nat.ble lo sd.block) with
    |false=>rw[hq]at h2;cases h2
    |true=>
     rw[hq]at h2;simp only[B9,Nat.ble_eq,Nat.beq_eq]at hq;obtain⟨⟨⟨q1,q2⟩,q3⟩,q4⟩:=hq;refine⟨_,_,h2,λ{ρ w s' x' ty} hinv hlo hs hx=>?_⟩;cases hs with
     |@slice ks os _ _ ss hss=>
     cases hx with
     |@slice kb off _ _ sp hsp=>
      simp only at q2 q4;subst q2;obtain⟨news',g1,g2,g3⟩:=nsound hinv hsp;obtain⟨olds',k1,k2,k3⟩:=osound hinv hss;have hm0:=kS hl;obtain⟨s2,e1,e2⟩:=hinv.rel.obj ks _ hm0;rw[hss]at e1;cases e1;obtain⟨arr,tyo,cs',hlies,ar,ac,aext,_⟩:=e2;obtain⟨⟨fr,ab⟩,hz0⟩:=id hlies;have arl:=ar.length;have keepS:∀k o,k<lo->(k,o)∈H.objs->(k,o)∈drop ks H.objs:=λk o hk hmm=>mW.2 ⟨hmm,by simp only;omega⟩
      have freeS:∀k o s,(k,o)∈drop ks H.objs->ρ k=some s->s.b≠ss.b:=λk o s hmm hs hb=>by obtain⟨h1,h2⟩:=mW.1 hmm;exact h2 (hinv.rel.inj k o ks _ s ss h1 hm0 hs hss hb)
      by_cases hroom:m<=ss.x
      ·have hms:m*i.size<=ss.x*i.size:=Nat.mul_le_mul_right _ hroom;have hcellO:∀(j:Nat) v,olds'[j]?=some v->arr[ss.d+j]?=some v:=λj v hv=>by have:=k3 j v hv;rw[uQ]at this;simpa[W9.cell?,ab] using this
       have hlen:arr.size≥ss.d+n*i.size+ss.x*i.size:=by rw[q1]at aext;omega
       have hone:=aA4 g1 hm.2;have hrun:=run_append_room_cells (P:=P) w t ty e i hu hi ss.b (ss.d+0) n (n+ss.x) ⟨sp.b,sp.d+off,none⟩ m (cx+sp.x) news' g2 g3 hone (by omega)
        (λj hj=>by
         have:ss.d+0+n*i.size+j<arr.size:=by omega
         simp only[Nat.add_zero]at this;simp[W9.cell?,ab,this]) (λj hj=>by
         rw[show ss.d+0+n*i.size+j=ss.d+(n*i.size+j) by omega];exact hz0 _ (by rw[q1];omega))
       obtain⟨w1,w2,w3,w4,w5,w6⟩:=rK ss.b news' (ss.d+0+n*i.size) w arr tyo fr ab;refine⟨upd ρ H.next ⟨ss.b,ss.d,ss.x-m⟩,_,_,hrun,?_,?_⟩
       ·refine Next.add hinv hlo _ ⟨ss.b,ss.d,ss.x-m⟩ (drop ks H.objs) (λy hy=>(mW.1 hy).1) keepS (Nat.le_of_eq w3.symm) w4 w5 w6 (λb _ hb=>w2 b hb) (.inr ⟨ks,_,ss,q4,hm0,hss,rfl⟩) freeS
         ⟨_,tyo,olds'++news',hlies.put ab w1 rfl (by rw[List.length_append,ol,nl,q1];have:(ss.x-m)*i.size=ss.x*i.size-m*i.size:=Nat.sub_mul _ _ _;simp only;omega),(k1.append g1).mono (aF2 hinv _),λj v hv=>?_,?_,λh=>absurd h (by omega)⟩
        ·rw[qZ];rcases Nat.lt_or_ge j (n*i.size) with hj|hj
         ·rw[if_neg (by simp only;omega)];rw[List.getElem?_append_left (by omega)]at hv;exact hcellO j v hv
         ·rw[List.getElem?_append_right (by omega),k2]at hv;have hjl:=(List.getElem?_eq_some_iff.1 hv).1;rw[if_pos (by simp only;omega)];simp only;rw[show ss.d+j-(ss.d+0+n*i.size)=j-n*i.size by omega];exact hv
        ·rw[tK,List.length_append,ol,nl];have:(ss.x-m)*i.size=ss.x*i.size-m*i.size:=Nat.sub_mul _ _ _;simp only;omega
       ·have:=dW.slice (ρ:=upd ρ H.next ⟨ss.b,ss.d,ss.x-m⟩) (k:=H.next) (o:=0) (n:=n+m) (c:=n+m) (s:=⟨ss.b,ss.d,ss.x-m⟩) (pA _ _ _);simp only at this;rw[show n+m+(ss.x-m)=n+ss.x by omega]at this;exact this
      ·have hrun:=growRun (ρ:=ρ) (w:=w) (ty:=ty) (cap:=n+ss.x) (cx':=cx+sp.x) k2 k3 g2 g3 (by omega);have hge:=grownCap_ge w (n+m) (n+ss.x) e;obtain⟨r1,r2⟩:=bL2 (P:=P) (lo:=lo) hinv hlo (k1.append g1) (need:=n+m) (size:=i.size) (by rw[List.length_append,k2,g2,Nat.add_mul]) hsz.1 hge hsz.2
        (arr:=olds'.toArray++news'.toArray++u9.zeroCells z.cells (grownCap w (n+m) (n+ss.x) e-(n+m))) (by simp) e
       refine⟨_,_,_,hrun,?_,r2⟩;exact
       {r1 with
        inv:=⟨r1.inv.dom,λk o hmm=>r1.inv.wf k o (by
          rcases List.mem_cons.1 hmm with g|g;· exact List.mem_cons.2 (.inl g)
          ·exact List.mem_cons.2 (.inr (mW.1 g).1)),
         λk o o' h1 h2=>r1.inv.one k o o' (by
          rcases List.mem_cons.1 h1 with g|g;· exact List.mem_cons.2 (.inl g)
          ·exact List.mem_cons.2 (.inr (mW.1 g).1)) (by
          rcases List.mem_cons.1 h2 with g|g;· exact List.mem_cons.2 (.inl g)
          ·exact List.mem_cons.2 (.inr (mW.1 g).1)),
         r1.inv.rel.sub λy hy=>by
          rcases List.mem_cons.1 hy with g|g;· exact List.mem_cons.2 (.inl g)
          ·exact List.mem_cons.2 (.inr (mW.1 g).1)⟩
        own:=λk o s hk hmm=>r1.own k o s hk (by
          rcases List.mem_cons.1 hmm with g|g;· exact List.mem_cons.2 (.inl g)
          ·exact List.mem_cons.2 (.inr (mW.1 g).1))
        old:=λk o hk=>by
         rw[<-r1.old k o hk];simp only[AH.push,List.mem_cons,mW];constructor
         ·rintro (g|g)
          ·exact .inl g
          ·exact .inr g.1
         ·rintro (g|g)
          ·exact .inl g
          ·exact .inr ⟨g,by omega⟩ }
 ·cases h
def bRs{R:Type}(P:Q9)(lo:Nat)(H:AH)(ts:List I9)(d s:V9)(k:V9->AH->Option R):Option R:=none
theorem aOa{R:Type}{P:Q9}{lo:Nat}{H:AH}{ts:List I9}{d s:V9}{k:V9->AH->Option R}{r:R}(h:bRs P lo H ts d s k=some r):
  ∃v H',k v H'=some r/\∀{ρ:Map}{w:W9}{d' s':V9}{ty:I9},Inv ρ H w->lo<=H.next->dW ρ d d'->dW ρ s s'->
   ∃ρ' w' v',(u9.copy_ ⟨ts⟩ ty #[d',s']).run P w=.ok v' w'/\Next lo ρ H w ρ' H' w'/\dW ρ' v v':=by cases h
def aXr{R:Type}(P:Q9)(op:BinOp)(t:I9)(x y:V9)(k:KVO R)(other:Option R):Option R:=other
theorem aLz{R:Type}{P:Q9}{op:BinOp}{t:I9}{ox oy:Y9}{x y:V9}{k:V9->Option R}{other:Option R}{r:R}(h:aXr P op t x y k other=some r):
  other=some r\/∃v,k v=some r/\flat v=true/\∀{ρ:Map}{w:W9}{x' y':V9},dW ρ x x'->dW ρ y y'->((do eqGuard op t ox oy x' y';binOp op t x' y'):Sem V9).run P w=.ok v w:=.inl h
def aZv{R:Type}(op:BinOp)(x y:V9)(k:KVO R)(other:Option R):Option R:=other
theorem aJm{R:Type}{P:Q9}{lo:Nat}{H:AH}{op:BinOp}{t yt:I9}{ox oy:Y9}{x y:V9}{k:V9->Option R}{other:Option R}{r:R}{o:X9}(ho:o.op=.binOp op t ox oy yt)(h:aZv op x y k other=some r):
  other=some r\/∃v,k v=some r/\∀{ρ:Map}{w:W9}{a:Act},Inv ρ H w->dW ρ x (a.eval ox)->dW ρ y (a.eval oy)->lO P lo o a ρ H w v H:=.inl h
def aE1{R:Type}(b:u9)(vs:List V9)(k:KVO R)(other:Option R):Option R:=other
theorem aBo{R:Type}{P:Q9}{b:u9}{ts:Array I9}{ty:I9}{vs:List V9}{k:V9->Option R}{other:Option R}{r:R}(h:aE1 b vs k other=some r):
  other=some r\/∃v,k v=some r/\∀{ρ:Map}{w:W9}{cs:Array Bool}{vs':List V9},cF ρ vs vs'->∃v',(builtin b ts ty cs ⟨vs'⟩).run P w=.ok (.value v') w/\dW ρ v v':=.inl h
open Go.MapKept
def aMb(P:Q9)(t:I9):Option K9:=
 match P.underlying t with
 |some (.int kk)=>some kk
 |_=>none
theorem aEi{P:Q9}{t:I9}{kk:K9}(h:aMb P t=some kk):P.underlying t=some (.int kk):=by
 unfold aMb at h;split at h;· cases h;assumption
 ·cases h
def aYw:Option V9->Bool
 |none=>true
 |some (.int _ _)=>true
 |_=>false
def aJi{R:Type}(P:Q9)(H:AH)(t:I9)(hint:Option V9)(k:V9->AH->Option R):Option R:=
 match P.underlying t with
 |some (.map kt _)=>(aMb P kt).bind λkk=>bif aYw hint then k (.map (some H.next)) (H.push (.map kk [])) else none
 |_=>none
theorem aGq{R:Type}{P:Q9}{lo:Nat}{H:AH}{t:I9}{hint:Option V9}{ho:Option Y9}{k:V9->AH->Option R}{r:R}(h:aJi P H t hint k=some r){o:X9}(hop:o.op=.makeMap t ho):∃v H',k v H'=some r/\∀{ρ:Map}{w:W9}{a:Act},Inv ρ H w->lo<=H.next->bHb ρ hint (ho.map a.eval)->lO P lo o a ρ H w v H':=by
 unfold aJi at h;split at h
 ·rename_i kt et hu;obtain⟨kk,hk,h⟩:=aB h;cases hh:aYw hint with
  |false=>rw[hh]at h;cases h
  |true=>
   rw[hh]at h;simp only[T7]at h;refine⟨_,_,h,λ{ρ w a} hi hlo hr=>?_⟩;have hrun:(Instr.makeMap t (ho.map a.eval)).run P w=.ok (.map (some w.heap.size)) (w.alloc (.map #[] 0)):=by
    generalize ho.map a.eval=x at hr;cases hr with
    |none=>rfl
    |some hv=>
     cases hv<;>simp only[aYw,Bool.false_eq_true]at hh
     simp only[Instr.makeMap,Sem.run_bind,A9 hu,Result.andThen_ok,asInt,asIntOf,Sem.run_pure];rfl
   refine lO.value (v':=.map (some w.heap.size)) ?_ (Next.alloc hi hlo (.map kk []) (.map #[] 0) 0 ⟨#[],0,?_,.nil⟩) (dW.map (s:=⟨w.heap.size,0,0⟩) (pA _ _ _));· simp only[G9,hop];rw[Sem.run_bind,hrun];rfl
   show(w.heap.push _)[w.heap.size]?=_;simp
 ·cases h
def aL3(n:Int):List (Int×V9)->Nat->Option (Nat×V9)
 |[],_=>none
 |(m,v)::r,i=>bif n==m then some (i,v) else aL3 n r (i+1)
theorem wZ{ρ:Map}{kk kd:K9}{n:Int}:∀{es:List (Int×V9)}{es':List MapEntry}{i:Nat},pV ρ kk es es'->
  (aL3 n es i=none->Instr.findNow (.int kd) (.int kk n) es' i=some none)/\
  (∀j v,aL3 n es i=some (j,v)->∃v',Instr.findNow (.int kd) (.int kk n) es' i=some (some (j,v'))/\dW ρ v v')
 |_,_,i,.nil=>⟨λ_=>rfl,λj v h=>by cases h⟩
 |_,_,i,.cons (n:=m) (v:=v) (v':=v') (b:=b) (es:=es) (es':=es') hv hs=>by
  obtain⟨g1,g2⟩:=wZ (n:=n) (kd:=kd) (i:=i+1) hs;have hsame:Instr.sameNow (.int kd) (.int kk n) (.int kk m)=some (n==m):=by simp[Instr.sameNow]
  unfold aL3 Instr.findNow;rw[hsame];cases hb:(n==m) with
  |true=>
   refine⟨λh=>?_,λj u h=>?_⟩;· cases h
   ·cases h;exact⟨_,rfl,hv⟩
  |false=>exact⟨g1,g2⟩
theorem pV.snoc{ρ:Map}{kk:K9}{n:Int}{v v':V9}{b:Nat}(h:dW ρ v v'):∀{es:List (Int×V9)}{es':List MapEntry},pV ρ kk es es'->
  pV ρ kk (es++[(n,v)]) (es'++[{ key:=.int kk n,val:=v',born:=b }])
 |_,_,.nil=>.cons h .nil
 |_,_,.cons hv hs=>.cons hv (pV.snoc h hs)
def okV(ok:Bool)(v:V9)(b:Bool):V9:=match ok with|true=>.tuple ⟨[v,.bool b]⟩|false=>v
theorem aZ2{ρ:Map}{ok:Bool}{v v':V9}(h:dW ρ v v')(b:Bool):dW ρ (okV ok v b) (okV ok v' b):=by
 cases ok;· exact h
 ·exact .tuple (.cons h (.cons (.bool b) .nil))
def aPf{R:Type}(P:Q9)(H:AH)(t:I9)(m i:V9)(ok:Bool)(k:KVO R):Option R:=
 match P.underlying t,m,i with
 |some (.map kt et),.map (some b),.int ki n=>
  (aMb P kt).bind λkd=>
   match aCg b H.objs with
   |some (.map kk es)=>
    bif decide (kk=ki)&&decide (kd=ki) then
     match aL3 n es 0 with
     |some (_,v)=>k (okV ok v true)
     |none=>(calm P (zeroValue et)).bind λz=>bif flat z then k (okV ok z false) else none
    else none
   |_=>none
 |_,_,_=>none
theorem aJh{R:Type}{P:Q9}{lo:Nat}{H:AH}{t:I9}{m i:V9}{mo io:Y9}{ok:Bool}{k:V9->Option R}{r:R}(h:aPf P H t m i ok k=some r){o:X9}(hop:o.op=.lookup t mo io ok):∃v,k v=some r/\∀{ρ:Map}{w:W9}{a:Act},Inv ρ H w->dW ρ m (a.eval mo)->dW ρ i (a.eval io)->lO P lo o a ρ H w v H:=by
 unfold aPf at h;split at h
 ·rename_i kt et b ki n hu;obtain⟨kd,hk,h'⟩:=aB h;clear h
  rename _=>h
  split at h
  ·rename_i kk es hl;cases hkk:(decide (kk=ki)&&decide (kd=ki)) with
   |false=>rw[hkk]at h;cases h
   |true=>
    rw[hkk]at h;simp only[B9,decide_eq_true_eq]at hkk;have e1:kk=ki:=hkk.1;have e2:kk=kd:=hkk.1.trans hkk.2.symm;subst e1;subst e2;replace h:(match aL3 n es 0 with|some (_,v)=>k (okV ok v true)|none=>(calm P (zeroValue et)).bind λz=>bif flat z then k (okV ok z false) else none)=some r:=h;have hkt:=aEi hk;have base:∀{ρ:Map}{w:W9}{a:Act},Inv ρ H w->dW ρ (.map (some b)) (a.eval mo)->dW ρ (.int kk n) (a.eval io)->
      ∃es':List MapEntry,pV ρ kk es es'/\(∀j u,Instr.findNow (.int kk) (.int kk n) es' 0=some (some (j,u))->(G9 a.eval o).run P w=.ok (.value (okV ok u true)) w)/\
       (∀z,Instr.findNow (.int kk) (.int kk n) es' 0=some none->(zeroValue et).run P w=.ok z w->(G9 a.eval o).run P w=.ok (.value (okV ok z false)) w):=by
     intro ρ w a hi hm hx;generalize e1:a.eval mo=m' at hm;generalize e2:a.eval io=i' at hx;cases hx;cases hm with
     |@map _ s hs=>
      obtain⟨s2,q1,q2⟩:=hi.rel.obj b _ (kS hl);rw[hs]at q1;cases q1;obtain⟨arr,clock,q3,q4⟩:=q2;have hkey:IsKey (.int kk) (.int kk n):=rfl;have up:∀v,(Instr.lookup t (.map (some s.b)) (.int kk n) ok).run P w=.ok v w->(G9 a.eval o).run P w=.ok (.value v) w:=λv hrun=>by simp only[G9,hop,e1,e2];rw[Sem.run_bind,hrun];rfl
      refine⟨arr.toList,q4,λj u hf=>up _ ?_,λz hf hz=>up _ ?_⟩;· unfold Instr.lookup;simp only[Sem.run_bind,A9 hu,Result.andThen_ok,Go.MapKept.run_getObj_map q3,Sem.run_pure];rw[run_checkKey hkt hkey _ 9999];simp only[Result.andThen_ok];rw[run_findKey hkt hf];cases ok<;>rfl
      ·unfold Instr.lookup;simp only[Sem.run_bind,A9 hu,Result.andThen_ok,Go.MapKept.run_getObj_map q3,Sem.run_pure];rw[run_checkKey hkt hkey _ 9999];simp only[Result.andThen_ok];rw[run_findKey hkt hf];simp only[Result.andThen_ok,Sem.run_bind,hz,Sem.run_pure];cases ok<;>rfl
    split at h;· rename_i j v hf;refine⟨_,h,λ{ρ w a} hi hm hx=>?_⟩;obtain⟨es',q1,q2,_⟩:=base hi hm hx;obtain⟨v',q3,q4⟩:=(wZ (kd:=kk) q1).2 j v hf;exact lO.value (w':=w) (q2 _ _ q3) (Next.refl hi) (aZ2 q4 true)
    ·rename_i hf;obtain⟨z,hz,h⟩:=aB h;cases hfl:flat z with
     |false=>rw[hfl]at h;cases h
     |true=>rw[hfl]at h;refine⟨_,h,λ{ρ w a} hi hm hx=>?_⟩;obtain⟨es',q1,_,q2⟩:=base hi hm hx;have q3:=(wZ (kd:=kk) q1).1 hf;exact lO.value (w':=w) (q2 z q3 (bV hz w)) (Next.refl hi) (aZ2 (dW.ofFlat ρ hfl) false)
  ·cases h
 ·cases h
def aJj{R:Type}(P:Q9)(lo:Nat)(H:AH)(t:I9)(m i x:V9)(k:AH->Option R):Option R:=
 match P.underlying t,m,i with
 |some (.map kt et),.map (some b),.int ki n=>
  (aMb P kt).bind λkd=>
   match aCg b H.objs with
   |some (.map kk es)=>
    bif decide (kk=ki)&&decide (kd=ki)&&Nat.ble lo b then
     match aL3 n es 0 with
     |some _=>none
     |none=>k (H.put b (.map kk (es++[(n,x)])))
    else none
   |_=>none
 |_,_,_=>none
theorem aAb{R:Type}{P:Q9}{lo:Nat}{H:AH}{t:I9}{m i x:V9}{mo io xo:Y9}{k:AH->Option R}{r:R}(h:aJj P lo H t m i x k=some r){o:X9}(hop:o.op=.mapUpdate t mo io xo\/o.op=.insert t mo io xo):
  ∃H',k H'=some r/\∀{ρ:Map}{w:W9}{a:Act},Inv ρ H w->dW ρ m (a.eval mo)->dW ρ i (a.eval io)->dW ρ x (a.eval xo)->lO P lo o a ρ H w undef H':=by
 unfold aJj at h;split at h
 ·rename_i kt et b ki n hu;obtain⟨kd,hk,h'⟩:=aB h;clear h
  rename _=>h
  split at h
  ·rename_i kk es hl;cases hkk:(decide (kk=ki)&&decide (kd=ki)&&Nat.ble lo b) with
   |false=>rw[hkk]at h;cases h
   |true=>
    rw[hkk]at h;simp only[B9,decide_eq_true_eq,Nat.ble_eq]at hkk;have e1:kk=ki:=hkk.1.1;have e2:kk=kd:=hkk.1.1.trans hkk.1.2.symm;have hlo:=hkk.2;subst e1;subst e2;replace h:(match aL3 n es 0 with|some _=>none|none=>k (H.put b (.map _ (es++[(n,x)]))))=some r:=h;have hkt:=aEi hk;split at h;· cases h
    ·rename_i hf;refine⟨_,h,λ{ρ w a} hi hm hx hv=>?_⟩;generalize e1:a.eval mo=m' at hm;generalize e2:a.eval io=i' at hx;generalize e3:a.eval xo=x' at hv;cases hx;cases hm with
     |@map _ s hs=>
      obtain⟨s2,q1,q2⟩:=hi.rel.obj b _ (kS hl);rw[hs]at q1;cases q1;obtain⟨arr,clock,q3,q4⟩:=q2;have q5:=(wZ (kd:=kk) q4).1 hf;have hkey:IsKey (.int kk) (.int kk n):=rfl;have hrun:(Instr.mapUpdate t (.map (some s.b)) (.int kk n) x').run P w=.ok () { w with heap:=w.heap.setIfInBounds s.b (.map (arr.push { key:=.int kk n,val:=x',born:=clock }) (clock+1)) }:=by unfold Instr.mapUpdate;simp only[Sem.run_bind,A9 hu,Result.andThen_ok,Go.MapKept.run_getObj_map q3];rw[run_checkKey hkt hkey _ 9999];simp only[Result.andThen_ok];rw[run_findKey hkt q5];simp only[Result.andThen_ok];exact run_setObj_map _ q3
      have hset:=heap_set (o':=.map (arr.push { key:=.int kk n,val:=x',born:=clock }) (clock+1)) q3;refine lO.skip (w':={ w with heap:=w.heap.setIfInBounds s.b (.map (arr.push { key:=.int kk n,val:=x',born:=clock }) (clock+1)) }) ?_
       (Next.write hi (kS hl) hlo hs _ (by simp) rfl rfl rfl (λb' hb'=>hset.2 b' hb') ⟨_,_,hset.1,?_⟩)
      ·rcases hop with hop|hop<;>
       ·simp only[G9,hop,e1,e2,e3];rw[Sem.run_bind,hrun];rfl
      ·rw[Array.toList_push];exact pV.snoc hv q4
  ·cases h
 ·cases h
end Go.Vm
