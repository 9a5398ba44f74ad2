/- A part of the evaluator and of what is told of floats; no conditions. -/
import Derived.Test.YtaogignikkjkjaaGreatVmP26
import Derived.Test.YtaogignikkjkjaaGreatVmRA7
import Derived.Test.YtaogignikkjkjaaGreatVmZY2
import Derived.Test.YtaogignikkjkjaaGreatVmRA1
set_option linter.unusedSimpArgs false
set_option linter.unusedVariables false
set_option maxRecDepth 1000000
set_option linter.unusedSectionVars false
namespace Go.Vm
open Go.Proofs
theorem sp_5:EqSp 5:=by intro R sp pl add fn g f c sz z1 z2 K;kernel_rfl
theorem sp_6:EqSp 6:=by intro R sp pl add fn g f c sz z1 z2 K;kernel_rfl
theorem h120p:Has Tryz.prog 120:=⟨Tryz.f120,_,Tryz.func120,by kernel_rfl,rfl⟩
def plcB (wi:KCFB):KCI:=fun R a b k=>wi R a b 4787326403894837248 fun t=>forceB t fun t=>match t with
 |true=>k 0
 |false=>k 5
theorem z_plc (wi:KCFB) (R:Type) (a b:Nat) (k:Value→Option R):evFn (cx Tryz.prog [(92,sCFB wi)]) 60 120 [.complex .f64 a b] k=plcB wi R a b fun e=>k (.int .i64 e):=by kernel_rfl
def plcK:KCI:=plcB WithinK
theorem k120p:SumOk Tryz.prog 120 (sCI plcK):=sumOk_of zm_ok (.cons k135 h135 .nil) (n:=60) fun R args k r hr=>by
 unfold sCI at hr;split at hr
 ·exact⟨rfl,(z_plc _ R _ _ k).trans hr⟩
 ·cases hr
theorem k28s:SumOk Tryz.prog 28 (sSpV spdK):=k_spdK
theorem h28s:Has Tryz.prog 28:=⟨Tryz.f28,_,Tryz.func28,by kernel_rfl,rfl⟩
noncomputable def spR:Cx:=spC fiReal spdK plcK addK FiniteK (saysR Tryz.prog 34 (.int .i64 0))
theorem spR_ok:spR.Ok:=uC_ok (.cons k28s h28s (.cons k120p h120p (.cons k84 h84 (.cons k93 h93 .nil)))) (.cons (says_ok rfl) h107 .nil) .nil
def elL (f:Nat→El):Nat→Nat→List El
 |_,0=>[]
 |i,m+1=>f i::elL f (i+1) m
theorem elL_len (f:Nat→El):∀ m i,(elL f i m).length=m
 |0,_=>rfl
 |m+1,i=>by simp only[elL,List.length_cons,elL_len f m]
theorem elsV_cells (f:Nat→El):∀ m i,elsV f i m=cellsOf (elL f i m)
 |0,_=>rfl
 |m+1,i=>by
  show .int .u8 (f i).kind::.complex .f64 (f i).a1 (f i).a2::.complex .f64 (f i).s1 (f i).s2::.float .f64 (f i).p::elsV f (i+1) m=_
  rw[elsV_cells f m (i+1)]
  rfl
def nthE (xs:List El) (i:Nat):El:=xs.getD i ⟨0,0,0,0,0,0⟩
theorem elL_nth (xs:List El):elL (nthE xs) 0 xs.length=xs:=by
 have key:∀(m i:Nat),i+m=xs.length→elL (nthE xs) i m=xs.drop i:=by
  intro m; induction m with
  |zero=>intro i h;rw[List.drop_eq_nil_of_le (by omega)];rfl
  |succ m ih=>
   intro i h; have hi:i<xs.length:=by omega
   show nthE xs i::elL (nthE xs) (i+1) m=_
   rw[ih (i+1) (by omega),List.drop_eq_getElem_cons hi]
   congr 1
   unfold nthE; simp[List.getD,hi]
 have:=key xs.length 0 (by omega)
 simpa using this
theorem firstEr_zero:∀(l:List El),firstEr (l.map fun _=>(0:Int))=0
 |[]=>rfl
 |x::r=>by simp only[List.map_cons,firstEr,if_true];exact firstEr_zero r
theorem check_okE {xs:List El} (hm:xs.length≤6) (hf:∀ x∈xs,ToldE (fun _=>0) x) {c sz:Nat}:FlatCall Tryz.prog 34 [flowV 0 xs.length c] ⟨1,[(0,.cells (cellsOf xs) sz)]⟩ (.int .i64 0):=by
 have h:=check_callE (cs:=cellsOf xs) (sz:=sz) (o:=0) (c:=c) (xs:=xs) (er:=fun _=>0) (elsAt_cells xs) fun _ x hx=>hf x hx
 have e:flowEr (fun _=>0) xs=0:=by
  unfold flowEr
  rw[if_neg (by omega)]
  exact firstEr_zero _
 rwa [e]at h
theorem b61:Tryz.f61.body=some (codeOf 61):=by kernel_rfl
theorem sp_all:∀ m,1≤m→m≤6→EqSp m
 |1,_,_=>sp_1
 |2,_,_=>sp_2
 |3,_,_=>sp_3
 |4,_,_=>sp_4
 |5,_,_=>sp_5
 |6,_,_=>sp_6
 |0,h,_=>absurd h (by omega)
 |n+7,_,h=>absurd h (by omega)
def SpdT (xs:List El) (z1 z2 x y:Nat):Prop:=∀(R:Type) (k:Nat→Nat→Int→Option R),spdR spdK addK FiniteK (nthE xs) z1 z2 k xs.length 0 []=k x y 0
theorem speed_callW {xs:List El} (h0:1≤xs.length) (hm:xs.length≤6) (hf:∀ x∈xs,ToldE (fun _=>0) x) {z1 z2 x y:Nat} (hp:∀(R:Type) (k:Int→Option R),plcK R z1 z2 k=k 0) (hs:SpdT xs z1 z2 x y) {c sz:Nat}:
  FlatCall Tryz.prog 61 [flowV 0 xs.length c,.complex .f64 z1 z2] ⟨1,[(0,.cells (cellsOf xs) sz)]⟩ (.tuple ⟨[.complex .f64 x y,.int .i64 0]⟩):=by
 have hL:∀ a∈loopsIn (codeOf 61),LOk Tryz.prog (rollL spR 100) a:=fun a _=>rollL_ok spR_ok zm_ok 100 a
 have h:=sp_all xs.length h0 hm (Ex×Env×Objs) spdK plcK addK FiniteK (saysR Tryz.prog 34 (.int .i64 0)) (nthE xs) c sz z1 z2 (fun ex e O=>some (ex,e,O))
 rw[hp]at h
 simp only[show ((0:Int) != 0)=false from rfl,cond_false]at h
 rw[hs]at h
 rw[elsV_cells,elL_nth]at h
 have hc:=says_eq (FlatCall.one (b:=0) (H:=⟨3,[(2,.cells [.int .u8 0,.complex .f64 0 0,.complex .f64 0 0,.float .f64 0,sliceV 0 xs.length c,nilS] 0),(1,.cells [sliceV 0 xs.length c] 0),(0,.cells (cellsOf xs) sz)]⟩) (check_okE hm hf (c:=c) (sz:=sz)) (row_cells xs).2.1 (by simp) (args:=[.agg ⟨[sliceV 0 xs.length c]⟩]) rfl) (R:=Ex×Env×Objs) (k:=some (.ret,spE x y 0,[])); have h':=h.trans hc; exact fun_flat (C:=spR) spR_ok zm_ok Tryz.func61 b61 hL (Nat.le_of_ble_eq_true rfl) h' (.inr rfl) (vs:=[.complex .f64 x y,.int .i64 0]) rfl rfl
abbrev KFFC:=∀ R:Type,Nat→Nat→(Nat→Nat→Option R)→Option R
def sFFC (g:KFFC):Sum:=fun R args k=>match args with
 |[.float .f64 l,.float .f64 t]=>g R l t fun x y=>k (.complex .f64 x y)
 |_=>none
def placeB2 (tn:KFF2):KFFC:=fun R l t k=>tn R t fun s c=>bindF (fbF .mul l c) fun x=>bindF (fbF .mul l s) fun y=>k x y
def plaK:KFFC:=placeB2 turnK
theorem z_pla (tn:KFF2) (R:Type) (l t:Nat) (k:Value→Option R):evFn (cx Tryz.prog [(71,sFF2 tn)]) 60 27 [.float .f64 l,.float .f64 t] k=placeB2 tn R l t fun x y=>k (.complex .f64 x y):=by kernel_rfl
theorem h27p:Has Tryz.prog 27:=⟨Tryz.f27,_,Tryz.func27,by kernel_rfl,rfl⟩
theorem k27p:SumOk Tryz.prog 27 (sFFC plaK):=sumOk_of zm_ok (.cons k_turn h_turn .nil) (n:=60) fun R args k r hr=>by
 unfold sFFC at hr;split at hr
 ·exact⟨rfl,(z_pla _ R _ _ k).trans hr⟩
 ·cases hr
noncomputable def abA:Code:=loopNo (codeOf 48) 0
abbrev KSpd:=∀ R:Type,Value→Nat→Nat→AH→(Nat→Nat→Option R)→Option R
def sSpd (g:KSpd):HSum:=fun R args H k=>match args with
 |[fv,.complex .f64 z1 z2]=>g R fv z1 z2 H fun x y=>k (.tuple ⟨[.complex .f64 x y,.int .i64 0]⟩)
 |_=>none
def abFn (f:Nat):Value:=.func (.func f) #[] #[]
noncomputable def abC (f:Nat) (fi:Fi) (st:St) (ap:Ap) (pl:KFFC) (ad mu:KCCC) (ti of:KCC) (gl:List (Nat×HSum)):Cx:=
 cxM fi Tryz.prog (fun _ _=>none) [(27,sFFC pl),(26,sCCC ad),(43,sCCC mu),(16,sCC ti),(f,sCC of)] [] gl [] (mmOf oa3 [] st ap)
def abE (f m c n pi:Nat) (k:Int):Env:=[(39,.int .i64 k),(38,.int .i64 n),(13,.slice (some ⟨3,0,none⟩) n n),(5,.pointer (some ⟨2,0,none⟩)),(4,.pointer (some ⟨1,0,none⟩)),(2,.int .i64 n),(11,.float .f64 pi),(3,abFn f)]
def abD (m c c1 c2 r:Nat):Objs:=[(2,.cells [.complex .f64 c1 c2,.float .f64 r] 0),(1,.cells [.slice (some ⟨0,0,none⟩) m c] 0)]
section
variable (f:Nat) (fi:Fi) (R:Type) (st:St) (ap:Ap) (pl:KFFC) (ad mu:KCCC) (ti of:KCC) (g:KSpd) (cs ts:List Value) (sz m c n k c1 c2 r pi:Nat) (K:Ex→Env→Objs→Option R)
def abRd:Option R:=
  bif decide ((k:Int)<n) then
   forceN (floatOfInt .f64 (k:Int)) fun a=>bindF (fbF .mul 4611686018427387904 a) fun a=>bindF (fbF .mul a pi) fun a=>forceN (floatOfInt .f64 (n:Int)) fun b=>bindF (fbF .quo a b) fun t=>
   pl R r t fun d1 d2=>ad R c1 c2 d1 d2 fun z1 z2=>g R (flowV 0 m c) z1 z2 ⟨4,abD m c c1 c2 r++[(3,.cells ts 0),(0,.cells cs sz)]⟩ fun x y=>
   of R x y fun u1 u2=>ti R d1 d2 fun t1 t2=>mu R u1 u2 t1 t2 fun q1 q2=>
   bif decide (0≤(k:Int)) && decide ((k:Int)<n) && true then
    st R ts (0+k*1) [.complex .f64 q1 q2] fun ts=>fi R (IntKind.i64.wrap (k+1)) fun i=>K .normal (abE f m c n pi i) (abD m c c1 c2 r++[(3,.cells ts 0)])
   else none
  else K (.exit 0) (abE f m c n pi k) (abD m c c1 c2 r++[(3,.cells ts 0)])
theorem ab_round49:evTop (abC 49 fi st ap pl ad mu ti of [(61,sSpd g)]) 60 noL 1 85 abA (abE 49 m c n pi k) ⟨4,abD m c c1 c2 r++[(3,.cells ts 0),(0,.cells cs sz)]⟩ (takeC [39,38,13,5,4,2,11,3] [2,1,3] K) =
  abRd 49 fi R st pl ad mu ti of g cs ts sz m c n k c1 c2 r pi K:=by kernel_rfl
theorem ab_round50:evTop (abC 50 fi st ap pl ad mu ti of [(61,sSpd g)]) 60 noL 1 85 abA (abE 50 m c n pi k) ⟨4,abD m c c1 c2 r++[(3,.cells ts 0),(0,.cells cs sz)]⟩ (takeC [39,38,13,5,4,2,11,3] [2,1,3] K) =
  abRd 50 fi R st pl ad mu ti of g cs ts sz m c n k c1 c2 r pi K:=by kernel_rfl
end
def finK {R:Type} (K:Option (TypeId×Value)→Env→Objs→Option R):Option (TypeId×Value)→Env→AH→Option R:=fun d e H=>K d (takeE [8,9] e) (takeO [3] H.objs)
def defK {R:Type} (t:TypeId) (v:Value) (F:Option (TypeId×Value)→Env→AH→Option R):Ex→Env→AH→Option R:=fun ex e H=>match ex with
 |.exit _=>none
 |_=>F (some (t,v)) e H
def noughts (n:Nat):List Value:=repeatE [.complex .f64 0 0] ((n:Int).toNat*1)
section
variable (f:Nat) (L:Hand) (fi:Fi) (R:Type) (st:St) (ap:Ap) (pl:KFFC) (ad mu:KCCC) (ti of:KCC) (g:KSpd) (ga gs:HT) (sc:KCFC) (cs ts:List Value) (sz m c n k c1 c2 r x y:Nat) (K:Option (TypeId×Value)→Env→Objs→Option R)
noncomputable def abT (f:Nat) (fi:Fi) (st:St) (ap:Ap) (pl:KFFC) (ad mu:KCCC) (ti of:KCC) (sc:KCFC) (fn:KCB) (gl:List (Nat×HSum)):Cx:=
 cxM fi Tryz.prog (fun _ _=>none) [(27,sFFC pl),(26,sCCC ad),(43,sCCC mu),(16,sCC ti),(f,sCC of),(15,sCFC sc),(91,sCB fn)] [] gl [] (mmOf oa3 [] st ap)
variable (fn:KCB)
abbrev abV (n:Nat):Value:=.slice (some ⟨3,0,none⟩) n n
theorem ab_top49:spine (abT 49 fi st ap pl ad mu ti of sc fn [(85,saysV (.int .i64 0) ga),(44,saysV (.complex .f64 x y) gs)]) 1 85 (evTop (abT 49 fi st ap pl ad mu ti of sc fn [(85,saysV (.int .i64 0) ga),(44,saysV (.complex .f64 x y) gs)]) 60 (slimL [39,38,13,5,4,2,11,3] [2,1,3,0] L) 1 85) (finK K) (codeOf 48) (enumE 0 [flowV 0 m c,ciV c1 c2 r,.int .i64 n,abFn 49]) ⟨1,[(0,.cells cs sz)]⟩ =
  ga R [flowV 0 m c,ciV c1 c2 r] ⟨3,abD m c c1 c2 r++[(0,.cells cs sz)]⟩ (bif decide ((n:Int)<1) then K none [(8,.complex .f64 0 0),(9,.int .i64 2)] [] else bif decide ((n:Int) > 16384) then K none [(8,.complex .f64 0 0),(9,.int .i64 2)] [] else
   bif decide (0≤(n:Int)) && decide ((n:Int)≤n) && decide ((n:Int)≤4294967296) && decide ((16:Int)*n≤281474976710656) && !Nat.beq ((n:Int).toNat*1) 0 then
    L R 1 85 abA (abE 49 m c n 4614256656552045848 0) ⟨4,abD m c c1 c2 r++[(3,.cells (noughts n) 0),(0,.cells cs sz)]⟩
     (leaveE 0 (thenE (fun en H=>evTop (abT 49 fi st ap pl ad mu ti of sc fn [(85,saysV (.int .i64 0) ga),(44,saysV (.complex .f64 x y) gs)]) 60 (slimL [39,38,13,5,4,2,11,3] [2,1,3,0] L) 1 85 (seqN 7 (codeOf 48)) en H (defK 82 (abV n) (finK K))) (defK 82 (abV n) (finK K))))
   else none):=by kernel_rfl
theorem ab_end49 (pi:Nat):evTop (abT 49 fi st ap pl ad mu ti of sc fn [(85,saysV (.int .i64 0) ga),(44,saysV (.complex .f64 x y) gs)]) 60 L 1 85 (seqN 7 (codeOf 48)) (abE 49 m c n pi k) ⟨4,abD m c c1 c2 r++[(3,.cells ts 0),(0,.cells cs sz)]⟩ (defK 82 (abV n) (finK K)) =
  gs R [abV n] ⟨4,abD m c c1 c2 r++[(3,.cells ts 0),(0,.cells cs sz)]⟩ (bindF (fbF .mul 4611686018427387904 pi) fun a=>forceN (floatOfInt .f64 (n:Int)) fun b=>bindF (fbF .quo a b) fun t=>sc R x y t fun u v=>fn R u v fun t=>
   bif t then K (some (82,abV n)) [(8,.complex .f64 u v),(9,.int .i64 0)] [(3,.cells ts 0)] else K (some (82,abV n)) [(8,.complex .f64 0 0),(9,.int .i64 6)] [(3,.cells ts 0)]):=by kernel_rfl
theorem ab_top50:spine (abT 50 fi st ap pl ad mu ti of sc fn [(85,saysV (.int .i64 0) ga),(44,saysV (.complex .f64 x y) gs)]) 1 85 (evTop (abT 50 fi st ap pl ad mu ti of sc fn [(85,saysV (.int .i64 0) ga),(44,saysV (.complex .f64 x y) gs)]) 60 (slimL [39,38,13,5,4,2,11,3] [2,1,3,0] L) 1 85) (finK K) (codeOf 48) (enumE 0 [flowV 0 m c,ciV c1 c2 r,.int .i64 n,abFn 50]) ⟨1,[(0,.cells cs sz)]⟩ =
  ga R [flowV 0 m c,ciV c1 c2 r] ⟨3,abD m c c1 c2 r++[(0,.cells cs sz)]⟩ (bif decide ((n:Int)<1) then K none [(8,.complex .f64 0 0),(9,.int .i64 2)] [] else bif decide ((n:Int) > 16384) then K none [(8,.complex .f64 0 0),(9,.int .i64 2)] [] else
   bif decide (0≤(n:Int)) && decide ((n:Int)≤n) && decide ((n:Int)≤4294967296) && decide ((16:Int)*n≤281474976710656) && !Nat.beq ((n:Int).toNat*1) 0 then
    L R 1 85 abA (abE 50 m c n 4614256656552045848 0) ⟨4,abD m c c1 c2 r++[(3,.cells (noughts n) 0),(0,.cells cs sz)]⟩
     (leaveE 0 (thenE (fun en H=>evTop (abT 50 fi st ap pl ad mu ti of sc fn [(85,saysV (.int .i64 0) ga),(44,saysV (.complex .f64 x y) gs)]) 60 (slimL [39,38,13,5,4,2,11,3] [2,1,3,0] L) 1 85 (seqN 7 (codeOf 48)) en H (defK 82 (abV n) (finK K))) (defK 82 (abV n) (finK K))))
   else none):=by kernel_rfl
theorem ab_end50 (pi:Nat):evTop (abT 50 fi st ap pl ad mu ti of sc fn [(85,saysV (.int .i64 0) ga),(44,saysV (.complex .f64 x y) gs)]) 60 L 1 85 (seqN 7 (codeOf 48)) (abE 50 m c n pi k) ⟨4,abD m c c1 c2 r++[(3,.cells ts 0),(0,.cells cs sz)]⟩ (defK 82 (abV n) (finK K)) =
  gs R [abV n] ⟨4,abD m c c1 c2 r++[(3,.cells ts 0),(0,.cells cs sz)]⟩ (bindF (fbF .mul 4611686018427387904 pi) fun a=>forceN (floatOfInt .f64 (n:Int)) fun b=>bindF (fbF .quo a b) fun t=>sc R x y t fun u v=>fn R u v fun t=>
   bif t then K (some (82,abV n)) [(8,.complex .f64 u v),(9,.int .i64 0)] [(3,.cells ts 0)] else K (some (82,abV n)) [(8,.complex .f64 0 0),(9,.int .i64 6)] [(3,.cells ts 0)]):=by kernel_rfl
end
theorem fun_spine {C:Cx} (hC:C.Ok) (hmix:C.P.follows .mixedOrders=true) {n:Nat} {f:FuncId} {fn:Func} {c:Code} (hf:C.P.funcs[f]?=some fn) (hb:fn.body=some c) {L:Hand} (hL:∀(c':Code),∀ a∈loopsIn c',LOk C.P L a)
  {args:List Value} {H:AH} {v:Value} (hl:args.length≤fn.ntmps) {fin:Option (TypeId×Value)→Env→AH→Option Value} (hfin:∀ d e H' v,fin d e H'=some v→endE C.P H.next fn.results.toList (fun v _=>some v) d e H'=some v)
  (h:spine C H.next fn.ntmps (evTop C n L H.next fn.ntmps) fin c (enumE 0 args) H=some v) (hfl:flat v=true):FlatCall C.P f args H v:=by
 intro ρ w args' hi ha
 obtain⟨d,e',H',h1,h2⟩:=spine_sound hC (fun c e H k r h=>evTop_sound hC hmix c (hL c) e H k r h) _ _ _ _ h
 have h1:=hfin _ _ _ _ h1; have hlen:=ha.length; have told:∀{ρ':Map} {w':World} {v':Value} {H2:AH} {u:Value},u=v→VRel ρ' u v'→Next H.next ρ H w ρ' H2 w'→Ending.returned v'=.returned v∧RowKit.Below w.heap.size w w':=fun{ρ' w' v' H2 u} hu hr hn=>by
  subst hu
  exact⟨by rw[hr.flat_eq hfl],⟨hn.os,hn.tape,hn.output,hn.size,fun b hb=>hn.keep b hb fun k o s hk hm=>absurd (hi.wf k o hm) (by omega)⟩⟩
 cases d with
 |none=>
  unfold endE at h1
  obtain⟨vs,g1,g2⟩:=bind_some' h1
  simp only[Option.some.injEq]at g2
  refine calls_of_wp_clear hf hb (h2 hi (Nat.le_refl _) (enum_rel ha _) (by simp;omega) rfl _ fun ρ' a' w' ex hex n1 n2 n3 n4=>?_)
  obtain⟨v',r1,r2⟩:=results_run g1 n1.inv n2
  have post:postC C.P fn (fun e w'=>e=.returned v∧RowKit.Below w.heap.size w w') .normal a' w':=.inl ⟨n4,v',r1,told g2 r2 n1⟩; rcases hex with rfl|rfl
  ·exact post
  ·exact post
 |some d=>
  obtain⟨t,x⟩:=d
  unfold endE at h1
  obtain⟨H2,k1,k2⟩:=clearE_sound h1
  obtain⟨vs,g1,g2⟩:=bind_some' k1
  simp only[Option.some.injEq]at g2
  refine calls_of_wp_clear hf hb (h2 hi (Nat.le_refl _) (enum_rel ha _) (by simp;omega) rfl _ fun ρ' a' w' ex hex n1 n2 n3 n4=>?_)
  obtain⟨v',ty,cn,d1,d2⟩:=n4
  obtain⟨w2,u,c1,c2⟩:=k2 (ty:=ty) n1.inv d2
  obtain⟨v2,r1,r2⟩:=results_run g1 c2.inv n2
  have hinv:(invoke (.builtin .clear #[t] ty cn) #[v']).run C.P w'=.ok (.value u) w2:=by
   show (builtin .clear #[t] ty cn #[v']).run C.P w'=_; show (do pure (Go.Next.value (← Builtin.clear_ #[t] ty #[v'])):Sem Go.Next).run C.P w'=_
   rw[Sem.run_bind,c1]
   rfl
  have post:postC C.P fn (fun e w'=>e=.returned v∧RowKit.Below w.heap.size w w') .normal a' w':=.inr ⟨_,_,_,_,_,u,w2,d1,hinv,v2,r1,told g2 r2 (n1.trans c2)⟩; rcases hex with rfl|rfl
  ·exact post
  ·exact post
theorem res89 {P:Program} {e:Env} {H H':AH} {r:Value} (h:((resE P (takeE [8,9] e) H [.tmp 8,.tmp 9]).bind fun vs=>some (oneOf vs))=some r):((resE P e H' [.tmp 8,.tmp 9]).bind fun vs=>some (oneOf vs))=some r:=by
 obtain⟨vs,h1,h2⟩:=bind_some' h
 simp only[resE]at h1
 obtain⟨a,a1,h1⟩:=bind_some' h1
 obtain⟨us,a2,h1⟩:=bind_some' h1
 obtain⟨b,b1,a2⟩:=bind_some' a2
 simp only[resE,getE_take a1,getE_take b1,Option.bind_some]at h1 a2 ⊢
 cases a2
 cases h1
 exact h2
theorem clear_take {P:Program} {lo:Nat} {t:TypeId} {x:Value} {bo:List Nat} {nx:Nat} {H:AH} {k k':AH→Option Value} {r:Value} (hk:∀ H1 H2,k H1=some r→k' H2=some r) (h:clearE P lo ⟨nx,takeO bo H.objs⟩ t x k=some r):clearE P lo H t x k'=some r:=by
 unfold clearE at h ⊢; split at h
 ·rename_i e ad n c hu; cases hn:Nat.beq n 0 with
  |true=>rw[hn]at h;exact hk _ _ h
  |false=>
   rw[hn]at h
   simp only[cond_false]at h ⊢
   obtain⟨z,hz,h⟩:=bind_some' h
   rw[hz,Option.bind_some]
   split at h
   ·rename_i cs sz hl
    rw[look_take hl]
    simp only
    cases hb:(oneZ z && Nat.ble lo ad.block && ad.spot.isNone && Nat.ble (ad.off+n) cs.length) with
    |false=>rw[hb]at h;cases h
    |true=>rw[hb]at h;exact hk _ _ h
   ·cases h
 ·cases h
theorem fin_take {P:Program} {lo nx:Nat} {d:Option (TypeId×Value)} {e:Env} {H:AH} {v:Value} (h:endE P lo [.tmp 8,.tmp 9] (fun v _=>some v) d (takeE [8,9] e) ⟨nx,takeO [3] H.objs⟩=some v):endE P lo [.tmp 8,.tmp 9] (fun v _=>some v) d e H=some v:=by
 unfold endE at h ⊢; cases d with
 |none=>exact res89 h
 |some d=>exact clear_take (fun H1 H2 h=>res89 h) h
noncomputable def spSay (P:Program) (p:Nat×Nat):KSpd:=fun R fv z1 z2 H k=>
 letI:=Classical.propDecidable
 if FlatCall P 61 [fv,.complex .f64 z1 z2] H (.tuple ⟨[.complex .f64 p.1 p.2,.int .i64 0]⟩) then k p.1 p.2 else none
theorem spSay_ok (p:Nat×Nat):HSumOk Tryz.prog 61 (sSpd (spSay Tryz.prog p)):=fun R args H k r h=>by
 unfold sSpd at h; split at h
 ·unfold spSay at h; split at h
  ·rename_i hc
   exact⟨_,h,rfl,hc⟩
  ·cases h
 ·cases h
theorem spSay_eq {p:Nat×Nat} {R:Type} {fv:Value} {z1 z2:Nat} {H:AH} {k:Nat→Nat→Option R} (h:FlatCall Tryz.prog 61 [fv,.complex .f64 z1 z2] H (.tuple ⟨[.complex .f64 p.1 p.2,.int .i64 0]⟩)):spSay Tryz.prog p R fv z1 z2 H k=k p.1 p.2:=by
 unfold spSay
 rw[if_pos h]
theorem h61s:Has Tryz.prog 61:=⟨Tryz.f61,_,Tryz.func61,by kernel_rfl,rfl⟩
theorem h49s:Has Tryz.prog 49:=⟨Tryz.f49,_,Tryz.func49,by kernel_rfl,rfl⟩
theorem h50s:Has Tryz.prog 50:=⟨Tryz.f50,_,Tryz.func50,by kernel_rfl,rfl⟩
theorem h85s:Has Tryz.prog 85:=⟨Tryz.f85,_,Tryz.func85,by kernel_rfl,rfl⟩
def idK:KCC:=fun R a b k=>k a b
def sqK:KCC:=fun R a b k=>mulK R a b a b k
theorem z_id (R:Type) (a b:Nat) (k:Value→Option R):evFn (cx Tryz.prog []) 60 49 [.complex .f64 a b] k=idK R a b fun x y=>k (.complex .f64 x y):=by kernel_rfl
theorem z_sq (mul:KCCC) (R:Type) (a b:Nat) (k:Value→Option R):evFn (cx Tryz.prog [(43,sCCC mul)]) 60 50 [.complex .f64 a b] k=mul R a b a b fun x y=>k (.complex .f64 x y):=by kernel_rfl
theorem k49s:SumOk Tryz.prog 49 (sCC idK):=ok_sCC zm_ok .nil z_id
theorem k50s:SumOk Tryz.prog 50 (sCC sqK):=ok_sCC zm_ok (.cons k22 h22 .nil) (z_sq _)
structure AbF (f:Nat) (of:KCC):Prop where
 ok:SumOk Tryz.prog f (sCC of)
 has:Has Tryz.prog f
 rd:∀(fi:Fi) (R:Type) (st:St) (ap:Ap) (pl:KFFC) (ad mu:KCCC) (ti of:KCC) (g:KSpd) (cs ts:List Value) (sz m c n k c1 c2 r pi:Nat) (K:Ex→Env→Objs→Option R),
  evTop (abC f fi st ap pl ad mu ti of [(61,sSpd g)]) 60 noL 1 85 abA (abE f m c n pi k) ⟨4,abD m c c1 c2 r++[(3,.cells ts 0),(0,.cells cs sz)]⟩ (takeC [39,38,13,5,4,2,11,3] [2,1,3] K)=abRd f fi R st pl ad mu ti of g cs ts sz m c n k c1 c2 r pi K
 top:∀(L:Hand) (fi:Fi) (R:Type) (st:St) (ap:Ap) (pl:KFFC) (ad mu:KCCC) (ti of:KCC) (ga gs:HT) (sc:KCFC) (cs:List Value) (sz m c n c1 c2 r x y:Nat) (K:Option (TypeId×Value)→Env→Objs→Option R) (fn:KCB),
  spine (abT f fi st ap pl ad mu ti of sc fn [(85,saysV (.int .i64 0) ga),(44,saysV (.complex .f64 x y) gs)]) 1 85 (evTop (abT f fi st ap pl ad mu ti of sc fn [(85,saysV (.int .i64 0) ga),(44,saysV (.complex .f64 x y) gs)]) 60 (slimL [39,38,13,5,4,2,11,3] [2,1,3,0] L) 1 85) (finK K) (codeOf 48) (enumE 0 [flowV 0 m c,ciV c1 c2 r,.int .i64 n,abFn f]) ⟨1,[(0,.cells cs sz)]⟩ =
  ga R [flowV 0 m c,ciV c1 c2 r] ⟨3,abD m c c1 c2 r++[(0,.cells cs sz)]⟩ (bif decide ((n:Int)<1) then K none [(8,.complex .f64 0 0),(9,.int .i64 2)] [] else bif decide ((n:Int) > 16384) then K none [(8,.complex .f64 0 0),(9,.int .i64 2)] [] else
   bif decide (0≤(n:Int)) && decide ((n:Int)≤n) && decide ((n:Int)≤4294967296) && decide ((16:Int)*n≤281474976710656) && !Nat.beq ((n:Int).toNat*1) 0 then
    L R 1 85 abA (abE f m c n 4614256656552045848 0) ⟨4,abD m c c1 c2 r++[(3,.cells (noughts n) 0),(0,.cells cs sz)]⟩
     (leaveE 0 (thenE (fun en H=>evTop (abT f fi st ap pl ad mu ti of sc fn [(85,saysV (.int .i64 0) ga),(44,saysV (.complex .f64 x y) gs)]) 60 (slimL [39,38,13,5,4,2,11,3] [2,1,3,0] L) 1 85 (seqN 7 (codeOf 48)) en H (defK 82 (abV n) (finK K))) (defK 82 (abV n) (finK K))))
   else none)
 fin:∀(L:Hand) (fi:Fi) (R:Type) (st:St) (ap:Ap) (pl:KFFC) (ad mu:KCCC) (ti of:KCC) (ga gs:HT) (sc:KCFC) (cs ts:List Value) (sz m c n k c1 c2 r x y:Nat) (K:Option (TypeId×Value)→Env→Objs→Option R) (fn:KCB) (pi:Nat),
  evTop (abT f fi st ap pl ad mu ti of sc fn [(85,saysV (.int .i64 0) ga),(44,saysV (.complex .f64 x y) gs)]) 60 L 1 85 (seqN 7 (codeOf 48)) (abE f m c n pi k) ⟨4,abD m c c1 c2 r++[(3,.cells ts 0),(0,.cells cs sz)]⟩ (defK 82 (abV n) (finK K)) =
  gs R [abV n] ⟨4,abD m c c1 c2 r++[(3,.cells ts 0),(0,.cells cs sz)]⟩ (bindF (fbF .mul 4611686018427387904 pi) fun a=>forceN (floatOfInt .f64 (n:Int)) fun b=>bindF (fbF .quo a b) fun t=>sc R x y t fun u v=>fn R u v fun t=>
   bif t then K (some (82,abV n)) [(8,.complex .f64 u v),(9,.int .i64 0)] [(3,.cells ts 0)] else K (some (82,abV n)) [(8,.complex .f64 0 0),(9,.int .i64 6)] [(3,.cells ts 0)])
theorem abF49:AbF 49 idK:=⟨k49s,h49s,fun fi R st ap pl ad mu ti of g cs ts sz m c n k c1 c2 r pi K=>ab_round49 fi R st ap pl ad mu ti of g cs ts sz m c n k c1 c2 r pi K,fun L fi R st ap pl ad mu ti of ga gs sc cs sz m c n c1 c2 r x y K fn=>ab_top49 L fi R st ap pl ad mu ti of ga gs sc cs sz m c n c1 c2 r x y K fn,
 fun L fi R st ap pl ad mu ti of ga gs sc cs ts sz m c n k c1 c2 r x y K fn pi=>ab_end49 L fi R st ap pl ad mu ti of ga gs sc cs ts sz m c n k c1 c2 r x y K fn pi⟩
theorem abF50:AbF 50 sqK:=⟨k50s,h50s,fun fi R st ap pl ad mu ti of g cs ts sz m c n k c1 c2 r pi K=>ab_round50 fi R st ap pl ad mu ti of g cs ts sz m c n k c1 c2 r pi K,fun L fi R st ap pl ad mu ti of ga gs sc cs sz m c n c1 c2 r x y K fn=>ab_top50 L fi R st ap pl ad mu ti of ga gs sc cs sz m c n c1 c2 r x y K fn,
 fun L fi R st ap pl ad mu ti of ga gs sc cs ts sz m c n k c1 c2 r x y K fn pi=>ab_end50 L fi R st ap pl ad mu ti of ga gs sc cs ts sz m c n k c1 c2 r x y K fn pi⟩
def piW:Nat:=4614256656552045848
def gonK {R:Type} (r c1 c2 n k:Nat) (K:Nat→Nat→Nat→Nat→Option R):Option R:=
 forceN (floatOfInt .f64 (k:Int)) fun a=>bindF (fbF .mul 4611686018427387904 a) fun a=>bindF (fbF .mul a piW) fun a=>forceN (floatOfInt .f64 (n:Int)) fun b=>bindF (fbF .quo a b) fun t=>
  plaK R r t fun d1 d2=>addK R c1 c2 d1 d2 fun z1 z2=>K d1 d2 z1 z2
def lasK {R:Type} (n x y:Nat) (K:Nat→Nat→Bool→Option R):Option R:=
 bindF (fbF .mul 4611686018427387904 piW) fun a=>forceN (floatOfInt .f64 (n:Int)) fun b=>bindF (fbF .quo a b) fun t=>sclK R x y t fun u v=>FiniteK R u v fun t=>K u v t
structure Abt (of:KCC) (cs:List Value) (sz m c c1 c2 r n:Nat) (d z v q:Nat→Nat×Nat):Prop where
 gone:∀ k,k<n→∀(R:Type) (K:Nat→Nat→Nat→Nat→Option R),gonK r c1 c2 n k K=K (d k).1 (d k).2 (z k).1 (z k).2
 spd:∀ k,k<n→FlatCall Tryz.prog 61 [flowV 0 m c,.complex .f64 (z k).1 (z k).2] ⟨1,[(0,.cells cs sz)]⟩ (.tuple ⟨[.complex .f64 (v k).1 (v k).2,.int .i64 0]⟩)
 term:∀ k,k<n→∀(R:Type) (K:Nat→Nat→Option R),(of R (v k).1 (v k).2 fun u1 u2=>timesK R (d k).1 (d k).2 fun t1 t2=>mulK R u1 u2 t1 t2 K)=K (q k).1 (q k).2
def lst (q:Nat→Nat×Nat) (n:Nat):List (Nat×Nat):=(List.range n).map q
theorem lst_len (q:Nat→Nat×Nat) (n:Nat):(lst q n).length=n:=by unfold lst;simp
theorem lst_succ (q:Nat→Nat×Nat) (n:Nat):lst q (n+1)=lst q n++[q n]:=by unfold lst;rw[List.range_succ];simp
def fil (q:Nat→Nat×Nat) (n k:Nat):List Value:=cxCells (lst q k)++List.replicate (n-k) (.complex .f64 0 0)
theorem cxCells_app (a b:List (Nat×Nat)):cxCells (a++b)=cxCells a++cxCells b:=by unfold cxCells;simp
theorem cxCells_len (a:List (Nat×Nat)):(cxCells a).length=a.length:=by unfold cxCells;simp
theorem fil_len (q:Nat→Nat×Nat) {n k:Nat} (h:k≤n):(fil q n k).length=n:=by
 unfold fil
 rw[List.length_append,cxCells_len,lst_len,List.length_replicate]
 omega
theorem fil_step (q:Nat→Nat×Nat) {n k:Nat} (h:k<n):splice (fil q n k) (0+k*1) [.complex .f64 (q k).1 (q k).2]=fil q n (k+1):=by
 have hl:(cxCells (lst q k)).length=k:=by rw[cxCells_len,lst_len]
 unfold splice fil
 rw[show 0+k*1=k by omega]
 rw[List.take_append_of_le_length (by omega),List.take_of_length_le (by omega),lst_succ,cxCells_app,List.append_assoc]
 congr 1
 show [Value.complex .f64 (q k).1 (q k).2]++_=[Value.complex .f64 (q k).1 (q k).2]++_; congr 1
 rw[show k+[Value.complex .f64 (q k).1 (q k).2].length=k+1 from rfl,List.drop_append,hl,List.drop_eq_nil_of_le (by omega),List.nil_append,List.drop_replicate]
 congr 1
 omega
theorem fil_zero (q:Nat→Nat×Nat) (n:Nat):noughts n=fil q n 0:=by
 unfold noughts fil repeatE lst; simp only[List.range_zero,List.map_nil,cxCells,List.nil_append,Nat.sub_zero]; refine List.ext_getElem (by simp) fun i h1 h2=>?_
 simp[Nat.mod_one]
theorem fil_end (q:Nat→Nat×Nat) (n:Nat):fil q n n=cxCells (lst q n):=by unfold fil;rw[Nat.sub_self];simp
theorem cx_flatW:∀(l:List (Nat×Nat)),inns 0 (cxCells l)=true
 |[]=>rfl
 |x::r=>by show (inn 0 (Value.complex .f64 x.1 x.2) && inns 0 (cxCells r))=true;rw[cx_flatW r];rfl
theorem rep_flat:∀ n,inns 0 (List.replicate n (Value.complex .f64 0 0))=true
 |0=>rfl
 |n+1=>by rw[List.replicate_succ];show (inn 0 (Value.complex .f64 0 0) && inns 0 (List.replicate n (Value.complex .f64 0 0)))=true;rw[rep_flat n];rfl
theorem fil_flat (q:Nat→Nat×Nat) (n k:Nat):inns 0 (fil q n k)=true:=inns_app (cx_flatW _) (rep_flat _)
noncomputable def abR (f:Nat) (of:KCC) (p:Nat×Nat):Cx:=abC f fiReal rSt (rAp Tryz.prog) plaK addK mulK timesK of [(61,sSpd (spSay Tryz.prog p))]
theorem abR_ok {f:Nat} {of:KCC} (hf:AbF f of) (p:Nat×Nat):(abR f of p).Ok:=
 cxM_ok no_meth (.cons k27p h27p (.cons k84 h84 (.cons k22 h22 (.cons k40 h40 (.cons hf.ok hf.has .nil))))) no_ext (.cons (spSay_ok p) h61s .nil) .nil (mmOf_ok .nil)
noncomputable def abS (f:Nat) (of:KCC) (x y:Nat):Cx:=abT f fiReal rSt (rAp Tryz.prog) plaK addK mulK timesK of sclK FiniteK [(85,saysV (.int .i64 0) (saysR Tryz.prog 85 (.int .i64 0))),(44,saysV (.complex .f64 x y) (saysR Tryz.prog 44 (.complex .f64 x y)))]
theorem abS_ok {f:Nat} {of:KCC} (hf:AbF f of) (x y:Nat):(abS f of x y).Ok:=
 cxM_ok no_meth (.cons k27p h27p (.cons k84 h84 (.cons k22 h22 (.cons k40 h40 (.cons hf.ok hf.has (.cons k39 h39 (.cons k93 h93 .nil))))))) no_ext (.cons (says_ok rfl) h85s (.cons (says_ok rfl) h155 .nil)) .nil (mmOf_ok .nil)
theorem abA_loops:loopsIn abA=[]:=by kernel_rfl
theorem ab_body:Tryz.f48.body=some (codeOf 48):=by kernel_rfl
section
variable {f:Nat} {of:KCC} {cs:List Value} {sz m c c1 c2 r n:Nat} {d z v q:Nat→Nat×Nat}
def abH (cs:List Value) (sz m c c1 c2 r n:Nat) (q:Nat→Nat×Nat) (k:Nat):AH:=⟨4,abD m c c1 c2 r++[(3,.cells (fil q n k) 0),(0,.cells cs sz)]⟩
theorem ab_step (hf:AbF f of) (hcs:inns 0 cs=true) (h:Abt of cs sz m c c1 c2 r n d z v q) (hn:n<100000) {k:Nat} (hk:k<n):
  BaseOk Tryz.prog 1 85 (abH cs sz m c c1 c2 r n q 0) (abE f m c n piW k) (abH cs sz m c c1 c2 r n q k) .normal (abE f m c n piW (k+1:Nat)) (abH cs sz m c c1 c2 r n q (k+1)) (fun Q a w=>abA.wp Tryz.prog Q a w):=by
 have hs:FlatCall Tryz.prog 61 [flowV 0 m c,.complex .f64 (z k).1 (z k).2] (abH cs sz m c c1 c2 r n q k) (.tuple ⟨[.complex .f64 (v k).1 (v k).2,.int .i64 0]⟩):=FlatCall.one (b:=0) (h.spd k hk) hcs (by unfold abH abD;simp) rfl; exact round_told (C:=abR f of (v k)) (H0:=abH cs sz m c c1 c2 r n q 0) (e:=abE f m c n piW k) (H:=abH cs sz m c c1 c2 r n q k) (n:=60) (ts:=[39,38,13,5,4,2,11,3]) (bo:=[2,1,3]) (bs:=[]) (A:=abD m c c1 c2 r++[(3,.cells (fil q n (k+1)) 0)]) (B:=[(0,.cells cs sz)]) (D:=abD m c c1 c2 r++[(3,.cells (fil q n 0) 0)]) (e1:=abE f m c n piW (k+1:Nat)) (O1:=abD m c c1 c2 r++[(3,.cells (fil q n (k+1)) 0)]) (abR_ok hf _) zm_ok abA_loops
  (by
    unfold abR
    refine(hf.rd fiReal _ _ _ _ _ _ _ _ _ cs (fil q n k) sz m c n k c1 c2 r piW _).trans ?_
    unfold abRd
    rw[decide_eq_true (show (k:Int)<n by omega),cond_true]
    have g:=h.gone k hk (Ex×Env×Objs); unfold gonK at g
    refine(g _).trans ?_
    refine(spSay_eq hs).trans ?_
    have t:=h.term k hk (Ex×Env×Objs)
    refine(t _).trans ?_
    rw[idx_ok,cond_true]
    unfold rSt
    rw[ble_eq_of (by rw[fil_len q (by omega)];simp;omega),cond_true,fil_step q hk]
    show fiReal (Ex×Env×Objs) _ _=_
    rw[fiReal_fair,wrap_up (by omega)]) rfl
  (by
    show renOs _ ((2,.cells [.complex .f64 c1 c2,.float .f64 r] 0)::(1,.cells [.slice (some ⟨0,0,none⟩) m c] 0)::[(3,.cells (fil q n (k+1)) 0)])=_; simp only[renOs,renO,renL,renV]
    rw[rens_flat (fil_flat q n (k+1))]
    rfl) rfl rfl rfl rfl rfl
theorem ab_last (hf:AbF f of) (hn:n<100000):
  BaseOk Tryz.prog 1 85 (abH cs sz m c c1 c2 r n q 0) (abE f m c n piW n) (abH cs sz m c c1 c2 r n q n) (.exit 0) (abE f m c n piW n) (abH cs sz m c c1 c2 r n q n) (fun Q a w=>abA.wp Tryz.prog Q a w):=by
 exact round_told (C:=abR f of (0,0)) (H0:=abH cs sz m c c1 c2 r n q 0) (e:=abE f m c n piW n) (H:=abH cs sz m c c1 c2 r n q n) (n:=60) (ts:=[39,38,13,5,4,2,11,3]) (bo:=[2,1,3]) (bs:=[]) (A:=abD m c c1 c2 r++[(3,.cells (fil q n n) 0)]) (B:=[(0,.cells cs sz)]) (D:=abD m c c1 c2 r++[(3,.cells (fil q n 0) 0)]) (e1:=abE f m c n piW n) (O1:=abD m c c1 c2 r++[(3,.cells (fil q n n) 0)]) (abR_ok hf _) zm_ok abA_loops
  (by
    unfold abR
    refine(hf.rd fiReal _ _ _ _ _ _ _ _ _ cs (fil q n n) sz m c n n c1 c2 r piW _).trans ?_
    unfold abRd
    rw[decide_eq_false (by omega),cond_false]) rfl
  (by
    show renOs _ ((2,.cells [.complex .f64 c1 c2,.float .f64 r] 0)::(1,.cells [.slice (some ⟨0,0,none⟩) m c] 0)::[(3,.cells (fil q n n) 0)])=_; simp only[renOs,renO,renL,renV]
    rw[rens_flat (fil_flat q n n)]
    rfl) rfl rfl rfl rfl rfl
theorem ab_rounds (hf:AbF f of) (hcs:inns 0 cs=true) (h:Abt of cs sz m c c1 c2 r n d z v q) (hn:n<100000):
  BaseRounds Tryz.prog 1 85 (abH cs sz m c c1 c2 r n q 0) abA (abE f m c n piW (0:Nat)) (abH cs sz m c c1 c2 r n q 0) (.exit 0) (abE f m c n piW n) (abH cs sz m c c1 c2 r n q n):=by
 refine base_count (E:=fun k:Nat=>abE f m c n piW k) (H:=fun k=>abH cs sz m c c1 c2 r n q k) n 0 (fun k _ hk=>ab_step hf hcs h hn (by omega)) (base_end (by intro h;cases h) ?_)
 simp only[Nat.zero_add]
 exact ab_last hf hn
theorem und82:Tryz.prog.underlying 82=some (.slice 32):=by kernel_rfl
theorem z32:calm Tryz.prog (zeroValue 32)=some (.complex .f64 0 0):=by kernel_rfl
theorem clear82 {n:Nat} (h0:1≤n) {cs:List Value} (hl:n≤cs.length) {k:AH→Option Value}:clearE Tryz.prog 1 ⟨4,[(3,.cells cs 0)]⟩ 82 (abV n) k=k (AH.put ⟨4,[(3,.cells cs 0)]⟩ 3 (.cells (splice cs 0 (List.replicate n (.complex .f64 0 0))) 0)):=by
 have hb:Nat.beq n 0=false:=by
  cases hb:Nat.beq n 0 with
  |true=>have:=Nat.eq_of_beq_eq_true hb;omega
  |false=>rfl
 unfold clearE; simp only[und82,hb,cond_false,z32,Option.bind_some]; show (bif true && true && true && Nat.ble (0+n) cs.length then _ else none)=_
 rw[ble_eq_of (show 0+n≤cs.length by omega)]
 rfl
theorem ab_call {x y u w:Nat} {g:Nat→Nat×Nat} (hf:AbF f of) (hcs:inns 0 cs=true) (h:Abt of cs sz m c c1 c2 r n d z v q) (n1:1≤n) (hn:n≤16384) (ha:FlatCall Tryz.prog 85 [flowV 0 m c,ciV c1 c2 r] ⟨1,[(0,.cells cs sz)]⟩ (.int .i64 0))
  (hs:SumT (lst q n) g) (hx:g n=(x,y)) (hl:∀(R:Type) (K:Nat→Nat→Bool→Option R),lasK n x y K=K u w true):
  FlatCall Tryz.prog 48 [flowV 0 m c,ciV c1 c2 r,.int .i64 n,abFn f] ⟨1,[(0,.cells cs sz)]⟩ (.tuple ⟨[.complex .f64 u w,.int .i64 0]⟩):=by
 have hB:=@base_loop _ _ _ _ _ _ _ _ _ (ab_rounds hf hcs h (by omega)); have ha':FlatCall Tryz.prog 85 [flowV 0 m c,ciV c1 c2 r] ⟨3,abD m c c1 c2 r++[(0,.cells cs sz)]⟩ (.int .i64 0):=FlatCall.one (b:=0) ha hcs (by unfold abD;simp) rfl; have hsum:FlatCall Tryz.prog 44 [abV n] (abH cs sz m c c1 c2 r n q n) (.complex .f64 x y):=by
  have:=sum_call (cs:=cxCells (lst q n)) (sz:=0) (o:=0) (c:=n) (zs:=lst q n) (f:=g) (cxAt_cells _) (by rw[lst_len];omega) hs
  rw[lst_len,hx]at this
  refine FlatCall.one (b:=3) this (cx_flatW _) ?_ rfl
  unfold abH
  rw[fil_end]
  simp
 have ht:=hf.top (told Tryz.prog (.exit 0) (abE f m c n piW n) (abH cs sz m c c1 c2 r n q n)) fiReal Value rSt (rAp Tryz.prog) plaK addK mulK timesK of (saysR Tryz.prog 85 (.int .i64 0)) (saysR Tryz.prog 44 (.complex .f64 x y)) sclK cs sz m c n c1 c2 r x y (fun d e O=>endE Tryz.prog 1 Tryz.f48.results.toList (fun v _=>some v) d e ⟨4,O⟩) FiniteK
 rw[says_eq ha',decide_eq_false (show ¬ ((n:Int)<1) by omega),decide_eq_false (show ¬ ((n:Int) > 16384) by omega)]at ht
 simp only[cond_false]at ht
 rw[decide_eq_true (show (0:Int)≤(n:Int) by omega),decide_eq_true (show (n:Int)≤(n:Int) by omega),decide_eq_true (show (n:Int)≤4294967296 by omega),decide_eq_true (show (16:Int)*n≤281474976710656 by omega),show Nat.beq ((n:Int).toNat*1) 0=false by
  cases hb:Nat.beq ((n:Int).toNat*1) 0 with
  |true=>have:=Nat.eq_of_beq_eq_true hb;omega
  |false=>rfl]at ht
 rw[show (true && true && true && true && !false)=true from rfl,cond_true,fil_zero q n]at ht
 have ht:=ht.trans (told_eq @hB _ _)
 rw[leave_then]at ht
 have ht:=ht.trans (hf.fin _ fiReal _ _ _ _ _ _ _ _ _ _ _ cs (fil q n n) sz m c n n c1 c2 r x y _ _ piW); have ht:=ht.trans (says_eq hsum); have hl':=hl Value; unfold lasK at hl'; have ht:=ht.trans (hl' _); simp only[cond_true]at ht; have hend:endE Tryz.prog 1 Tryz.f48.results.toList (fun v _=>some v) (some (82,abV n)) [(8,.complex .f64 u w),(9,.int .i64 0)] ⟨4,[(3,.cells (fil q n n) 0)]⟩=some (.tuple ⟨[.complex .f64 u w,.int .i64 0]⟩):=by
  unfold endE; simp only
  rw[clear82 n1 (Nat.le_of_eq (fil_len q (Nat.le_refl n)).symm)]
  rfl
 have ht:=ht.trans hend; exact fun_spine (C:=abS f of x y) (n:=60) (H:=⟨1,[(0,.cells cs sz)]⟩) (args:=[flowV 0 m c,ciV c1 c2 r,.int .i64 n,abFn f]) (abS_ok hf x y) zm_ok Tryz.func48 ab_body (L:=slimL [39,38,13,5,4,2,11,3] [2,1,3,0] (told Tryz.prog (.exit 0) (abE f m c n piW n) (abH cs sz m c c1 c2 r n q n))) (fun _ a _=>slimL_ok (told_ok _ _ _ _ a)) (Nat.le_of_ble_eq_true rfl) (fun d e H v h=>fin_take (nx:=4) h) ht rfl
end
section
variable (fi:Fi) (R:Type) (st:St) (ap:Ap) (wi:KCFB) (gc:HT) (cs:List Value) (sz o n c j c1 c2 r x y:Nat) (e:Int) (K:Ex→Env→Objs→Option R)
theorem ig_eq:evTop (akC fi st ap wi [(48,saysV (.tuple ⟨[.complex .f64 x y,.int .i64 e]⟩) gc)] []) 60 noL 1 14 (codeOf 12) (enumE 0 [flowV o n c,ciV c1 c2 r,.int .i64 j]) ⟨1,[(0,.cells cs sz)]⟩ (takeC [6,7] [] K) =
  gc R [flowV o n c,ciV c1 c2 r,.int .i64 j,abFn 49] ⟨3,[(2,.cells [.complex .f64 c1 c2,.float .f64 r] 0),(1,.cells [.slice (some ⟨0,o,none⟩) n c] 0),(0,.cells cs sz)]⟩ (K .ret [(6,.complex .f64 x y),(7,.int .i64 e)] []):=by kernel_rfl
theorem sq_eq:evTop (akC fi st ap wi [(48,saysV (.tuple ⟨[.complex .f64 x y,.int .i64 e]⟩) gc)] []) 60 noL 1 14 (codeOf 13) (enumE 0 [flowV o n c,ciV c1 c2 r,.int .i64 j]) ⟨1,[(0,.cells cs sz)]⟩ (takeC [6,7] [] K) =
  gc R [flowV o n c,ciV c1 c2 r,.int .i64 j,abFn 50] ⟨3,[(2,.cells [.complex .f64 c1 c2,.float .f64 r] 0),(1,.cells [.slice (some ⟨0,o,none⟩) n c] 0),(0,.cells cs sz)]⟩ (K .ret [(6,.complex .f64 x y),(7,.int .i64 e)] []):=by kernel_rfl
end
theorem ig_body:Tryz.f12.body=some (codeOf 12):=by kernel_rfl
theorem sq_body:Tryz.f13.body=some (codeOf 13):=by kernel_rfl
theorem h48s:Has Tryz.prog 48:=⟨Tryz.f48,_,Tryz.func48,by kernel_rfl,rfl⟩
section
variable {cs:List Value} {sz o n c j c1 c2 r x y:Nat} {e:Int}
theorem integral_call (hf:inns 0 cs=true) (hc:FlatCall Tryz.prog 48 [flowV o n c,ciV c1 c2 r,.int .i64 j,abFn 49] ⟨1,[(0,.cells cs sz)]⟩ (reV x y e)):FlatCall Tryz.prog 12 [flowV o n c,ciV c1 c2 r,.int .i64 j] ⟨1,[(0,.cells cs sz)]⟩ (reV x y e):=by
 have hc':FlatCall Tryz.prog 48 [flowV o n c,ciV c1 c2 r,.int .i64 j,abFn 49] ⟨3,[(2,.cells [.complex .f64 c1 c2,.float .f64 r] 0),(1,.cells [.slice (some ⟨0,o,none⟩) n c] 0),(0,.cells cs sz)]⟩ (reV x y e):=FlatCall.one (b:=0) hc hf (by simp) rfl; have h:=ig_eq fiReal (Ex×Env×Objs) rSt (rAp Tryz.prog) WithinK (saysR Tryz.prog 48 (reV x y e)) cs sz o n c j c1 c2 r x y e fun ex e O=>some (ex,e,O)
 rw[says_eq hc']at h
 exact fun_flat (C:=akR [(48,saysV (reV x y e) (saysR Tryz.prog 48 (reV x y e)))] []) (args:=[flowV o n c,ciV c1 c2 r,.int .i64 j]) (H:=⟨1,[(0,.cells cs sz)]⟩) (akR_ok (.cons (says_ok rfl) h48s .nil) .nil) zm_ok (L:=noL) Tryz.func12 ig_body (fun a _=>noL_ok) (Nat.le_of_ble_eq_true rfl) h (.inr rfl) (vs:=[.complex .f64 x y,.int .i64 e]) rfl rfl
theorem square_call (hf:inns 0 cs=true) (hc:FlatCall Tryz.prog 48 [flowV o n c,ciV c1 c2 r,.int .i64 j,abFn 50] ⟨1,[(0,.cells cs sz)]⟩ (reV x y e)):FlatCall Tryz.prog 13 [flowV o n c,ciV c1 c2 r,.int .i64 j] ⟨1,[(0,.cells cs sz)]⟩ (reV x y e):=by
 have hc':FlatCall Tryz.prog 48 [flowV o n c,ciV c1 c2 r,.int .i64 j,abFn 50] ⟨3,[(2,.cells [.complex .f64 c1 c2,.float .f64 r] 0),(1,.cells [.slice (some ⟨0,o,none⟩) n c] 0),(0,.cells cs sz)]⟩ (reV x y e):=FlatCall.one (b:=0) hc hf (by simp) rfl; have h:=sq_eq fiReal (Ex×Env×Objs) rSt (rAp Tryz.prog) WithinK (saysR Tryz.prog 48 (reV x y e)) cs sz o n c j c1 c2 r x y e fun ex e O=>some (ex,e,O)
 rw[says_eq hc']at h
 exact fun_flat (C:=akR [(48,saysV (reV x y e) (saysR Tryz.prog 48 (reV x y e)))] []) (args:=[flowV o n c,ciV c1 c2 r,.int .i64 j]) (H:=⟨1,[(0,.cells cs sz)]⟩) (akR_ok (.cons (says_ok rfl) h48s .nil) .nil) zm_ok (L:=noL) Tryz.func13 sq_body (fun a _=>noL_ok) (Nat.le_of_ble_eq_true rfl) h (.inr rfl) (vs:=[.complex .f64 x y,.int .i64 e]) rfl rfl
end
noncomputable def meA:Code:=loopNo (codeOf 14) 0
noncomputable def meC (fi:Fi) (pl:KFFC) (ad:KCCC) (sp:KSpV) (ln:KCF):Cx:=uC fi [(27,sFFC pl),(26,sCCC ad),(28,sSpV sp),(29,sCF ln)] [] []
def meE (m c n one two:Nat) (k:Int):Env:=[(11,.int .i64 k),(2,.int .i64 n),(3,.pointer (some ⟨1,0,none⟩)),(4,.pointer (some ⟨2,0,none⟩)),(9,.float .f64 one),(10,.float .f64 two)]
def meS {R:Type} (ad:KCCC) (sp:KSpV) (ln:KCF) (f:Nat→El) (c1 c2 d1 d2:Nat) (er:Option R) (k:Nat→Option R):Nat→Nat→Nat→Option R
 |0,_,s=>k s
 |m+1,i,s=>ad R c1 c2 d1 d2 fun z1 z2=>sp R (f i).kind (f i).a1 (f i).a2 (f i).s1 (f i).s2 (f i).p z1 z2 fun x y e=>bif e != 0 then er else ln R x y fun l=>bindF (fbF .add s l) fun s=>meS ad sp ln f c1 c2 d1 d2 er k m (i+1) s
def EqMe (m:Nat):Prop:=∀(fi:Fi) (R:Type) (pl:KFFC) (ad:KCCC) (sp:KSpV) (ln:KCF) (f:Nat→El) (c sz n one two k c1 c2 r:Nat) (K:Ex→Env→Objs→Option R),
 evTop (meC fiReal pl ad sp ln) 60 (rollL (meC fiReal pl ad sp ln) 60) 1 78 meA (meE m c n one two k) ⟨3,abD m c c1 c2 r++[(0,.cells (elsV f 0 m) sz)]⟩ (takeC [11,2,3,4,9,10,6,7,8] [2,1] K) =
  bif decide ((k:Int)<n) then
   forceN (floatOfInt .f64 (k:Int)) fun a=>bindF (fbF .mul 4618760256179416344 a) fun a=>forceN (floatOfInt .f64 (n:Int)) fun b=>bindF (fbF .quo a b) fun t=>pl R r t fun d1 d2=>
   meS ad sp ln f c1 c2 d1 d2 (K .ret (meE m c n one two k++[(6,.float .f64 0),(7,.float .f64 0),(8,.bool false)]) (abD m c c1 c2 r))
    (fun s=>bindF (fbF .add one s) fun one=>bindF (fbF .mul s s) fun q=>bindF (fbF .add two q) fun two=>fiReal R (IntKind.i64.wrap (k+1)) fun i=>K .normal (meE m c n one two i) (abD m c c1 c2 r)) m 0 0
  else K (.exit 0) (meE m c n one two k) (abD m c c1 c2 r)
theorem me_1:EqMe 1:=by intro fi R pl ad sp ln f c sz n one two k c1 c2 r K;kernel_rfl
theorem me_2:EqMe 2:=by intro fi R pl ad sp ln f c sz n one two k c1 c2 r K;kernel_rfl
theorem me_3:EqMe 3:=by intro fi R pl ad sp ln f c sz n one two k c1 c2 r K;kernel_rfl
theorem me_4:EqMe 4:=by intro fi R pl ad sp ln f c sz n one two k c1 c2 r K;kernel_rfl
theorem me_5:EqMe 5:=by intro fi R pl ad sp ln f c sz n one two k c1 c2 r K;kernel_rfl
theorem me_6:EqMe 6:=by intro fi R pl ad sp ln f c sz n one two k c1 c2 r K;kernel_rfl
section
variable (L:Hand) (fi:Fi) (R:Type) (pl:KFFC) (ad:KCCC) (sp:KSpV) (ln:KCF) (cs:List Value) (sz m c n one two k c1 c2 r:Nat) (K:Ex→Env→Objs→Option R)
theorem me_top:evTop (meC fiReal pl ad sp ln) 60 (slimL [11,2,3,4,9,10] [2,1,0] L) 1 78 (codeOf 14) (enumE 0 [flowV 0 m c,ciV c1 c2 r,.int .i64 n]) ⟨1,[(0,.cells cs sz)]⟩ (takeC [6,7,8] [] K) =
  L R 1 78 meA (meE m c n 0 0 0) ⟨3,abD m c c1 c2 r++[(0,.cells cs sz)]⟩ (leaveE 0 (thenE (fun en H=>evTop (meC fiReal pl ad sp ln) 60 (slimL [11,2,3,4,9,10] [2,1,0] L) 1 78 (seqN 4 (codeOf 14)) en H (takeC [6,7,8] [] K)) (takeC [6,7,8] [] K))):=by kernel_rfl
theorem me_end:evTop (meC fiReal pl ad sp ln) 60 L 1 78 (seqN 4 (codeOf 14)) (meE m c n one two k) ⟨3,abD m c c1 c2 r++[(0,.cells cs sz)]⟩ (takeC [6,7,8] [] K) =
  bindF (fbF .mul 4618760256179416344 r) fun a=>forceN (floatOfInt .f64 (n:Int)) fun b=>bindF (fbF .quo a b) fun q=>bindF (fbF .mul one q) fun x=>bindF (fbF .mul two q) fun y=>K .ret [(6,.float .f64 x),(7,.float .f64 y),(8,.bool true)] []:=by kernel_rfl
end
end Go.Vm
