/- A part of the evaluator and of what is told of floats; no conditions. -/
import Derived.Test.YtaogignikkjkjaaGreatVmRA1
import Derived.Test.YtaogignikkjkjaaGreatVmZ9
import Derived.Test.YtaogignikkjkjaaGreatVmF0
import Derived.Test.YtaogignikkjkjaaGreatProg
import Derived.Test.YtaogignikkjkjaaGreatVmP4
import Derived.Test.YtaogignikkjkjaaGreatVmZX
import Derived.Test.YtaogignikkjkjaaGreatVmKL
set_option linter.unusedSimpArgs false
set_option linter.unusedVariables false
set_option maxRecDepth 1000000
set_option linter.unusedSectionVars false
namespace Go.Vm
open Go.Proofs
theorem ap62 (R:Type) (cs:List Value) (n c:Nat) (cx:List Value) (off m:Nat) (k:List Value→Option R):rAp Tryz.prog R 68 cs n c cx off m k =
  bif true && true && Nat.beq c n && Nat.blt 0 m && Nat.ble ((n+m)*8) 140737488355328 && Nat.ble (n+m) 1099511627776 && Nat.beq cs.length (n*1) && Nat.beq ((cx.drop off).take (m*1)).length (m*1) && allOne ((cx.drop off).take (m*1)) then
   k (cs++(cx.drop off).take (m*1)) else none:=by kernel_rfl
theorem ap62_one {R:Type} {cs:List Value} {n:Nat} {x:Int} {k:List Value→Option R} (h1:cs.length=n) (hn:n<1000000):rAp Tryz.prog R 68 cs n n [.int .i64 x] 0 1 k=k (cs++[.int .i64 x]):=by
 rw[ap62,h1,ble_eq_of (show (n+1)*8≤140737488355328 by omega),ble_eq_of (show n+1≤1099511627776 by omega),Nat.mul_one,Nat.beq_refl]
 rfl
def sideOf {c1 c2 r:Nat} (S:Sight c1 c2 r) (x:El):Int:=bif x.kind == 1 then 0 else bif ltF (S.lw x) r then -1 else 1
section
variable {cs:List Value} {sz o n c c1 c2 r:Nat} {w:Int} {xs:List El} (S:Sight c1 c2 r)
theorem siC_at {x:El} (hs:Seen c1 c2 S.lw x) (R:Type) (k:Int→Option R):siC (outC subK lengthK) R x.kind x.a1 x.a2 c1 c2 r k=k (sideOf S x):=by
 unfold siC sideOf
 rw[hs]
 cases x.kind == 1 with
 |true=>rfl
 |false=>cases ltF (S.lw x) r<;>rfl
end
theorem ap78 (R:Type) (cs:List Value) (n c:Nat) (cx:List Value) (off m:Nat) (k:List Value→Option R):rAp Tryz.prog R 82 cs n c cx off m k =
  bif true && true && Nat.beq c n && Nat.blt 0 m && Nat.ble ((n+m)*16) 140737488355328 && Nat.ble (n+m) 1099511627776 && Nat.beq cs.length (n*1) && Nat.beq ((cx.drop off).take (m*1)).length (m*1) && allOne ((cx.drop off).take (m*1)) then
   k (cs++(cx.drop off).take (m*1)) else none:=by kernel_rfl
theorem ap78_one {R:Type} {cs:List Value} {n a b:Nat} {k:List Value→Option R} (h1:cs.length=n) (hn:n<1000000):rAp Tryz.prog R 82 cs n n [.complex .f64 a b] 0 1 k=k (cs++[.complex .f64 a b]):=by
 rw[ap78,h1,ble_eq_of (show (n+1)*16≤140737488355328 by omega),ble_eq_of (show n+1≤1099511627776 by omega),Nat.mul_one,Nat.beq_refl]
 rfl
theorem cx_len (zs:List (Nat×Nat)):(cxCells zs).length=zs.length:=by unfold cxCells;simp
theorem cx_app (a b:List (Nat×Nat)):cxCells (a++b)=cxCells a++cxCells b:=by unfold cxCells;simp
theorem cx_flat:∀(zs:List (Nat×Nat)),inns 0 (cxCells zs)=true
 |[]=>rfl
 |z::r=>cx_flat r
def zsS (zs:List (Nat×Nat)):Value:=match zs with | []=>nilS|_::_=>sl3 3 zs.length
def zsH (D:Objs) (cs:List Value) (sz:Nat) (zs:List (Nat×Nat)):AH:=match zs with | []=>⟨3,D++[(0,.cells cs sz)]⟩|_::_=>⟨4,D++[(3,.cells (cxCells zs) 1),(0,.cells cs sz)]⟩
def inB {c1 c2 r:Nat} (S:Sight c1 c2 r) (x:El):Bool:=x.kind == 2 && decide (sideOf S x<0)
theorem zs_sum {zs:List (Nat×Nat)} {f:Nat→Nat×Nat} {cs:List Value} {sz:Nat} {D:Objs} (hf:SumT zs f) (hn:zs.length<900000):FlatCall Tryz.prog 44 [zsS zs] (zsH D cs sz zs) (.complex .f64 (f zs.length).1 (f zs.length).2):=by
 cases zs with
 |nil=>
  show FlatCall Tryz.prog 44 [nilS] _ (.complex .f64 (f 0).1 (f 0).2)
  rw[hf.zero]
  exact sum_none
 |cons z zs=>exact FlatCall.one (b:=3) (sum_call (sz:=1) (c:=(z::zs).length) (cxAt_cells (z::zs)) hn hf) (cx_flat _) (by show _∈D++[_,_];simp) rfl
def reFn:Value:=.func (.func 37) #[] #[]
noncomputable def reA:Code:=loopNo (codeOf 36) 0
noncomputable def reC (lim:Nat→Bool) (fi:Fi) (ge:GEl) (st:St) (ap:Ap) (si:KSi) (h:KCC) (gl:List (Nat×HSum)):Cx:=
 cxM fi Tryz.prog (fun _ _=>none) [(41,sSi si),(37,sCC h)] [] gl [] (mmOf lim [(39,gEl ge)] st ap)
def reE (o n c:Nat) (s:Value) (k:Int):Env:=[(21,.int .i64 k),(20,.int .i64 n),(19,.slice (some ⟨0,o,none⟩) n c),(4,.pointer (some ⟨2,0,none⟩)),(2,reFn),(9,s)]
section
variable (L:Hand) (fi:Fi) (R:Type) (ge:GEl) (st:St) (ap:Ap) (si:KSi) (h:KCC) (ga gs:HT) (gl:List (Nat×HSum)) (cs os:List Value) (sz o n c j k c1 c2 r z1 z2:Nat) (s:Value) (K:Ex→Env→Objs→Option R)
theorem re_nil:evTop (reC la0 fi ge st ap si h []) 60 noL 1 44 reA (reE o n c nilS k) ⟨3,clD o n c c1 c2 r++[(0,.cells cs sz)]⟩ (takeC [21,20,19,4,2,9] [2,1,5] K) =
  bif decide ((k:Int)<n) then
   bif decide (0≤(k:Int)) && decide ((k:Int)<n) && true then
    ge R cs (o+k*4) fun kind a1 a2 s1 s2 p=>bif kind == 2 then si R kind a1 a2 c1 c2 r fun v=>
     bif decide (v<0) then h R s1 s2 fun u1 u2=>fi R (IntKind.i64.wrap (k+1)) fun i=>K .normal (reE o n c (sl3 5 1) i) (clD o n c c1 c2 r++[(5,.cells [.complex .f64 u1 u2] 1)])
     else fi R (IntKind.i64.wrap (k+1)) fun i=>K .normal (reE o n c nilS i) (clD o n c c1 c2 r)
     else fi R (IntKind.i64.wrap (k+1)) fun i=>K .normal (reE o n c nilS i) (clD o n c c1 c2 r)
   else none
  else K (.exit 0) (reE o n c nilS k) (clD o n c c1 c2 r):=by kernel_rfl
theorem re_some:evTop (reC oa3 fi ge st ap si h []) 60 noL 1 44 reA (reE o n c (sl3 3 j) k) ⟨4,clD o n c c1 c2 r++[(3,.cells os 1),(0,.cells cs sz)]⟩ (takeC [21,20,19,4,2,9] [2,1,6] K) =
  bif decide ((k:Int)<n) then
   bif decide (0≤(k:Int)) && decide ((k:Int)<n) && true then
    ge R cs (o+k*4) fun kind a1 a2 s1 s2 p=>bif kind == 2 then si R kind a1 a2 c1 c2 r fun v=>
     bif decide (v<0) then h R s1 s2 fun u1 u2=>ap R 82 os j j [.complex .f64 u1 u2] 0 1 fun os=>fi R (IntKind.i64.wrap (k+1)) fun i=>K .normal (reE o n c (sl3 6 (j+1)) i) (clD o n c c1 c2 r++[(6,.cells os 1)])
     else fi R (IntKind.i64.wrap (k+1)) fun i=>K .normal (reE o n c (sl3 3 j) i) (clD o n c c1 c2 r)
     else fi R (IntKind.i64.wrap (k+1)) fun i=>K .normal (reE o n c (sl3 3 j) i) (clD o n c c1 c2 r)
   else none
  else K (.exit 0) (reE o n c (sl3 3 j) k) (clD o n c c1 c2 r):=by kernel_rfl
theorem re_keep:evTop (reC oa3 fi ge st ap si h []) 60 noL 1 44 reA (reE o n c (sl3 3 j) k) ⟨4,clD o n c c1 c2 r++[(3,.cells os 1),(0,.cells cs sz)]⟩ (takeC [21,20,19,4,2,9] [2,1,3] K) =
  bif decide ((k:Int)<n) then
   bif decide (0≤(k:Int)) && decide ((k:Int)<n) && true then
    ge R cs (o+k*4) fun kind a1 a2 s1 s2 p=>bif kind == 2 then si R kind a1 a2 c1 c2 r fun v=>
     bif decide (v<0) then h R s1 s2 fun u1 u2=>ap R 82 os j j [.complex .f64 u1 u2] 0 1 fun os=>fi R (IntKind.i64.wrap (k+1)) fun i=>K .normal (reE o n c (sl3 6 (j+1)) i) (clD o n c c1 c2 r)
     else fi R (IntKind.i64.wrap (k+1)) fun i=>K .normal (reE o n c (sl3 3 j) i) (clD o n c c1 c2 r++[(3,.cells os 1)])
     else fi R (IntKind.i64.wrap (k+1)) fun i=>K .normal (reE o n c (sl3 3 j) i) (clD o n c c1 c2 r++[(3,.cells os 1)])
   else none
  else K (.exit 0) (reE o n c (sl3 3 j) k) (clD o n c c1 c2 r++[(3,.cells os 1)]):=by kernel_rfl
theorem re_err:evTop (reC la0 fi ge st ap si h [(38,saysV (.int .i64 210) ga)]) 60 noL 1 44 (codeOf 36) (enumE 0 [flowV o n c,ciV c1 c2 r,reFn]) ⟨1,[(0,.cells cs sz)]⟩ (takeC [6,7] [] K) =
  ga R [flowV o n c,ciV c1 c2 r,.bool true] ⟨3,clD o n c c1 c2 r++[(0,.cells cs sz)]⟩ (K .ret [(6,.complex .f64 0 0),(7,.int .i64 210)] []):=by kernel_rfl
theorem re_top:evTop (reC la0 fi ge st ap si h [(38,saysV (.int .i64 0) ga),(44,saysV (.complex .f64 z1 z2) gs)]) 60 (slimL [21,20,19,4,2,9] [2,1,0] L) 1 44 (codeOf 36) (enumE 0 [flowV o n c,ciV c1 c2 r,reFn]) ⟨1,[(0,.cells cs sz)]⟩ (takeC [6,7] [] K) =
  ga R [flowV o n c,ciV c1 c2 r,.bool true] ⟨3,clD o n c c1 c2 r++[(0,.cells cs sz)]⟩ (L R 1 44 reA (reE o n c nilS 0) ⟨3,clD o n c c1 c2 r++[(0,.cells cs sz)]⟩
   (leaveE 0 (thenE (fun en H=>evTop (reC la0 fi ge st ap si h [(38,saysV (.int .i64 0) ga),(44,saysV (.complex .f64 z1 z2) gs)]) 60 (slimL [21,20,19,4,2,9] [2,1,0] L) 1 44 (seqN 4 (codeOf 36)) en H (takeC [6,7] [] K)) (takeC [6,7] [] K)))):=by kernel_rfl
theorem re_end (H:AH):evTop (reC la0 fi ge st ap si h [(38,saysV (.int .i64 0) ga),(44,saysV (.complex .f64 z1 z2) gs)]) 60 L 1 44 (seqN 4 (codeOf 36)) (reE o n c s k) H (takeC [6,7] [] K) =
  gs R [s] H (K .ret [(6,.complex .f64 z1 z2),(7,.int .i64 0)] []):=by kernel_rfl
end
theorem h111:Has Tryz.prog 37:=⟨Tryz.f37,_,Tryz.func37,by kernel_rfl,rfl⟩
def reH:KCC:=fun R a b k=>sclK R a b 4594902181429758083 k
theorem z_overre (sc:KCFC) (R:Type) (a b:Nat) (k:Value→Option R):evFn (cx Tryz.prog [(15,sCFC sc),(70,sPi)]) 60 37 [.complex .f64 a b] k=sc R a b 4594902181429758083 fun x y=>k (.complex .f64 x y):=by kernel_rfl
theorem k111:SumOk Tryz.prog 37 (sCC reH):=sumOk_of zm_ok (.cons k39 h39 (.cons k165 h165 .nil)) (n:=60) fun R args k r hr=>by
 unfold sCC at hr;split at hr
 ·exact⟨rfl,(z_overre sclK R _ _ k).trans hr⟩
 ·cases hr
noncomputable def reR (lim:Nat→Bool) (gl:List (Nat×HSum)):Cx:=reC lim fiReal rEl rSt (rAp Tryz.prog) (siC (outC subK lengthK)) reH gl
theorem reR_ok (lim:Nat→Bool) {gl:List (Nat×HSum)} (hg:GsOk Tryz.prog gl):(reR lim gl).Ok:=cxM_ok no_meth (.cons k195 h195 (.cons k111 h111 .nil)) no_ext hg .nil (mmOf_ok lds1)
theorem reA_loops:loopsIn reA=[]:=by kernel_rfl
theorem re_body:Tryz.f36.body=some (codeOf 36):=by kernel_rfl
def reZ (hv:El→Nat×Nat) {c1 c2 r:Nat} (S:Sight c1 c2 r) (xs:List El) (k:Nat):List (Nat×Nat):=((xs.take k).filter (inB S)).map hv
section
variable {cs:List Value} {sz o n c c1 c2 r:Nat} {xs:List El} (S:Sight c1 c2 r) {hv:El→Nat×Nat}
theorem reZ_step {k:Nat} {x:El} (hk:xs[k]?=some x):reZ hv S xs (k+1)=bif inB S x then reZ hv S xs k++[hv x] else reZ hv S xs k:=by
 unfold reZ
 rw[List.take_add_one,hk,List.filter_append,List.map_append]
 cases h:inB S x with
 |true=>simp[h]
 |false=>simp[h]
theorem reZ_len (k:Nat):(reZ hv S xs k).length≤k:=by
 unfold reZ
 rw[List.length_map]
 have:=List.length_filter_le (inB S) (xs.take k)
 rw[List.length_take]at this
 omega
theorem re_step (hx:ElsAt cs o xs) (hn:xs.length<900000) {k:Nat} {x:El} (hk:xs[k]?=some x) (hs:Seen c1 c2 S.lw x) (hh:∀(R:Type) (k:Nat→Nat→Option R),reH R x.s1 x.s2 k=k (hv x).1 (hv x).2):
  BaseOk Tryz.prog 1 44 ⟨3,clD o xs.length c c1 c2 r++[(0,.cells cs sz)]⟩ (reE o xs.length c (zsS (reZ hv S xs k)) k) (zsH (clD o xs.length c c1 c2 r) cs sz (reZ hv S xs k)) .normal
   (reE o xs.length c (zsS (reZ hv S xs (k+1))) (k+1:Nat)) (zsH (clD o xs.length c c1 c2 r) cs sz (reZ hv S xs (k+1))) (fun Q a w=>reA.wp Tryz.prog Q a w):=by
 have hkn:=(List.getElem?_eq_some_iff.1 hk).1; have hl:=reZ_len (xs:=xs) (hv:=hv) S k
 rw[reZ_step S hk]
 generalize reZ hv S xs k=js at hl; cases js with
 |nil=>
  cases hb:inB S x with
  |true=>
   show BaseOk Tryz.prog 1 44 _ (reE o xs.length c nilS k) ⟨3,clD o xs.length c c1 c2 r++[(0,.cells cs sz)]⟩ _ (reE o xs.length c (sl3 3 1) (k+1:Nat)) ⟨4,clD o xs.length c c1 c2 r++[(3,.cells [.complex .f64 (hv x).1 (hv x).2] 1),(0,.cells cs sz)]⟩ _; unfold inB at hb; simp only[Bool.and_eq_true]at hb; exact round_told (C:=reR la0 []) (H0:=⟨3,clD o xs.length c c1 c2 r++[(0,.cells cs sz)]⟩) (e:=reE o xs.length c nilS k) (H:=⟨3,clD o xs.length c c1 c2 r++[(0,.cells cs sz)]⟩) (n:=60) (ts:=[21,20,19,4,2,9]) (bo:=[2,1,5]) (bs:=[5])
    (A:=clD o xs.length c c1 c2 r++[(3,.cells [.complex .f64 (hv x).1 (hv x).2] 1)]) (B:=[(0,.cells cs sz)]) (D:=clD o xs.length c c1 c2 r) (reR_ok _ .nil) zm_ok reA_loops
    (by
      unfold reR
      refine(re_nil fiReal _ _ _ _ _ _ cs sz o xs.length c k c1 c2 r _).trans ?_
      rw[decide_eq_true (show (k:Int)<xs.length by omega),cond_true,idx_ok,cond_true,rEl_at hx hk,hb.1,cond_true,siC_at S hs,hb.2,cond_true,hh,fiReal_fair,wrap_up (by omega)]) rfl
    rfl rfl rfl rfl rfl rfl
  |false=>
   show BaseOk Tryz.prog 1 44 _ (reE o xs.length c nilS k) ⟨3,clD o xs.length c c1 c2 r++[(0,.cells cs sz)]⟩ _ (reE o xs.length c nilS (k+1:Nat)) ⟨3,clD o xs.length c c1 c2 r++[(0,.cells cs sz)]⟩ _; unfold inB at hb; exact round_told (C:=reR la0 []) (H0:=⟨3,clD o xs.length c c1 c2 r++[(0,.cells cs sz)]⟩) (e:=reE o xs.length c nilS k) (H:=⟨3,clD o xs.length c c1 c2 r++[(0,.cells cs sz)]⟩) (n:=60) (ts:=[21,20,19,4,2,9]) (bo:=[2,1,5]) (bs:=[])
    (A:=clD o xs.length c c1 c2 r) (B:=[(0,.cells cs sz)]) (D:=clD o xs.length c c1 c2 r) (e1:=reE o xs.length c nilS (k+1:Nat)) (O1:=clD o xs.length c c1 c2 r) (reR_ok _ .nil) zm_ok reA_loops
    (by
      unfold reR
      refine(re_nil fiReal _ _ _ _ _ _ cs sz o xs.length c k c1 c2 r _).trans ?_
      rw[decide_eq_true (show (k:Int)<xs.length by omega),cond_true,idx_ok,cond_true,rEl_at hx hk]
      cases h2:x.kind == 2 with
      |false=>rw[cond_false,fiReal_fair,wrap_up (by omega)]
      |true=>
       rw[h2,Bool.true_and]at hb
       rw[cond_true,siC_at S hs,hb,cond_false,fiReal_fair,wrap_up (by omega)]) rfl
    rfl rfl rfl rfl rfl rfl
 |cons j0 js=>
  cases hb:inB S x with
  |true=>
   show BaseOk Tryz.prog 1 44 _ (reE o xs.length c (sl3 3 (j0::js).length) k) ⟨4,clD o xs.length c c1 c2 r++[(3,.cells (cxCells (j0::js)) 1),(0,.cells cs sz)]⟩ _
    (reE o xs.length c (sl3 3 ((j0::js)++[hv x]).length) (k+1:Nat)) ⟨4,clD o xs.length c c1 c2 r++[(3,.cells (cxCells ((j0::js)++[hv x])) 1),(0,.cells cs sz)]⟩ _
   rw[cx_app,List.length_append]
   have hf:inns 0 (cxCells (j0::js)++cxCells [hv x])=true:=inns_app (cx_flat _) (cx_flat _); unfold inB at hb; simp only[Bool.and_eq_true]at hb; exact round_told (C:=reR oa3 []) (H0:=⟨3,clD o xs.length c c1 c2 r++[(0,.cells cs sz)]⟩) (e:=reE o xs.length c (sl3 3 (j0::js).length) k) (H:=⟨4,clD o xs.length c c1 c2 r++[(3,.cells (cxCells (j0::js)) 1),(0,.cells cs sz)]⟩) (n:=60) (ts:=[21,20,19,4,2,9]) (bo:=[2,1,6]) (bs:=[6])
    (A:=clD o xs.length c c1 c2 r++[(3,.cells (cxCells (j0::js)++cxCells [hv x]) 1)]) (B:=[(0,.cells cs sz)]) (D:=clD o xs.length c c1 c2 r) (O1:=clD o xs.length c c1 c2 r++[(6,.cells (cxCells (j0::js)++cxCells [hv x]) 1)]) (reR_ok _ .nil) zm_ok reA_loops
    (by
      unfold reR
      refine(re_some fiReal _ _ _ _ _ _ cs _ sz o xs.length c _ k c1 c2 r _).trans ?_
      rw[decide_eq_true (show (k:Int)<xs.length by omega),cond_true,idx_ok,cond_true,rEl_at hx hk,hb.1,cond_true,siC_at S hs,hb.2,cond_true,hh,ap78_one (cx_len _) (by omega),fiReal_fair,wrap_up (by omega)]
      rfl) rfl
    (by
      simp only[clD,List.cons_append,List.nil_append,renOs,renO,renL,renV]
      rw[rens_flat hf]
      rfl) rfl rfl rfl rfl rfl
  |false=>
   show BaseOk Tryz.prog 1 44 _ (reE o xs.length c (sl3 3 (j0::js).length) k) ⟨4,clD o xs.length c c1 c2 r++[(3,.cells (cxCells (j0::js)) 1),(0,.cells cs sz)]⟩ _
    (reE o xs.length c (sl3 3 (j0::js).length) (k+1:Nat)) ⟨4,clD o xs.length c c1 c2 r++[(3,.cells (cxCells (j0::js)) 1),(0,.cells cs sz)]⟩ _
   unfold inB at hb; exact round_told (C:=reR oa3 []) (H0:=⟨3,clD o xs.length c c1 c2 r++[(0,.cells cs sz)]⟩) (e:=reE o xs.length c (sl3 3 (j0::js).length) k) (H:=⟨4,clD o xs.length c c1 c2 r++[(3,.cells (cxCells (j0::js)) 1),(0,.cells cs sz)]⟩) (n:=60) (ts:=[21,20,19,4,2,9]) (bo:=[2,1,3]) (bs:=[3])
    (A:=clD o xs.length c c1 c2 r++[(3,.cells (cxCells (j0::js)) 1)]) (B:=[(0,.cells cs sz)]) (D:=clD o xs.length c c1 c2 r) (e1:=reE o xs.length c (sl3 3 (j0::js).length) (k+1:Nat)) (O1:=clD o xs.length c c1 c2 r++[(3,.cells (cxCells (j0::js)) 1)]) (reR_ok _ .nil) zm_ok reA_loops
    (by
      unfold reR
      refine(re_keep fiReal _ _ _ _ _ _ cs _ sz o xs.length c _ k c1 c2 r _).trans ?_
      rw[decide_eq_true (show (k:Int)<xs.length by omega),cond_true,idx_ok,cond_true,rEl_at hx hk]
      cases h2:x.kind == 2 with
      |false=>rw[cond_false,fiReal_fair,wrap_up (by omega)]
      |true=>
       rw[h2,Bool.true_and]at hb
       rw[cond_true,siC_at S hs,hb,cond_false,fiReal_fair,wrap_up (by omega)]) rfl
    (by
      simp only[clD,List.cons_append,List.nil_append,renOs,renO,renL,renV]
      rw[rens_flat (cx_flat _)]
      rfl) rfl rfl rfl rfl rfl
theorem re_last (js:List (Nat×Nat)):
  BaseOk Tryz.prog 1 44 ⟨3,clD o n c c1 c2 r++[(0,.cells cs sz)]⟩ (reE o n c (zsS js) n) (zsH (clD o n c c1 c2 r) cs sz js) (.exit 0) (reE o n c (zsS js) n) (zsH (clD o n c c1 c2 r) cs sz js) (fun Q a w=>reA.wp Tryz.prog Q a w):=by
 cases js with
 |nil=>
  exact round_told (C:=reR la0 []) (H0:=⟨3,clD o n c c1 c2 r++[(0,.cells cs sz)]⟩) (e:=reE o n c nilS n) (H:=⟨3,clD o n c c1 c2 r++[(0,.cells cs sz)]⟩) (n:=60) (ts:=[21,20,19,4,2,9]) (bo:=[2,1,5]) (bs:=[])
    (A:=clD o n c c1 c2 r) (B:=[(0,.cells cs sz)]) (D:=clD o n c c1 c2 r) (reR_ok _ .nil) zm_ok reA_loops
    (by
      unfold reR
      refine(re_nil fiReal _ _ _ _ _ _ cs sz o n c n c1 c2 r _).trans ?_
      rw[decide_eq_false (by omega)];rfl) rfl
    rfl rfl rfl rfl rfl rfl
 |cons j0 js=>
  exact round_told (C:=reR oa3 []) (H0:=⟨3,clD o n c c1 c2 r++[(0,.cells cs sz)]⟩) (e:=reE o n c (sl3 3 (j0::js).length) n) (H:=⟨4,clD o n c c1 c2 r++[(3,.cells (cxCells (j0::js)) 1),(0,.cells cs sz)]⟩) (n:=60) (ts:=[21,20,19,4,2,9]) (bo:=[2,1,3]) (bs:=[3])
    (A:=clD o n c c1 c2 r++[(3,.cells (cxCells (j0::js)) 1)]) (B:=[(0,.cells cs sz)]) (D:=clD o n c c1 c2 r) (O1:=clD o n c c1 c2 r++[(3,.cells (cxCells (j0::js)) 1)]) (reR_ok _ .nil) zm_ok reA_loops
    (by
      unfold reR
      refine(re_keep fiReal _ _ _ _ _ _ cs _ sz o n c _ n c1 c2 r _).trans ?_
      rw[decide_eq_false (by omega)];rfl) rfl
    (by
      simp only[clD,List.cons_append,List.nil_append,renOs,renO,renL,renV]
      rw[rens_flat (cx_flat _)]
      rfl) rfl rfl rfl rfl rfl
theorem re_call_err (hf:inns 0 cs=true) (hc:FlatCall Tryz.prog 38 [flowV o n c,ciV c1 c2 r,.bool true] ⟨1,[(0,.cells cs sz)]⟩ (.int .i64 210)):
  FlatCall Tryz.prog 36 [flowV o n c,ciV c1 c2 r,reFn] ⟨1,[(0,.cells cs sz)]⟩ (.tuple ⟨[.complex .f64 0 0,.int .i64 210]⟩):=by
 have hc':FlatCall Tryz.prog 38 [flowV o n c,ciV c1 c2 r,.bool true] ⟨3,clD o n c c1 c2 r++[(0,.cells cs sz)]⟩ (.int .i64 210):=FlatCall.one hc hf (by simp) rfl; have h:=re_err fiReal (Ex×Env×Objs) rEl rSt (rAp Tryz.prog) (siC (outC subK lengthK)) reH (saysR Tryz.prog 38 (.int .i64 210)) cs sz o n c c1 c2 r (fun ex e O=>some (ex,e,O))
 rw[says_eq hc']at h
 exact fun_flat (C:=reR la0 [(38,saysV (.int .i64 210) (saysR Tryz.prog 38 (.int .i64 210)))]) (args:=[flowV o n c,ciV c1 c2 r,reFn]) (H:=⟨1,[(0,.cells cs sz)]⟩) (reR_ok _ (.cons (says_ok rfl) h192 .nil)) zm_ok (L:=noL) Tryz.func36 re_body (fun a _=>noL_ok) (Nat.le_of_ble_eq_true rfl) h (.inr rfl) (vs:=[.complex .f64 0 0,.int .i64 210]) rfl rfl
theorem re_call (hx:ElsAt cs o xs) (hn:xs.length<900000) (hs:∀ x∈xs,Seen c1 c2 S.lw x) (hh:∀ x∈xs,∀(R:Type) (k:Nat→Nat→Option R),reH R x.s1 x.s2 k=k (hv x).1 (hv x).2) (hf:inns 0 cs=true)
  (hc:FlatCall Tryz.prog 38 [flowV o xs.length c,ciV c1 c2 r,.bool true] ⟨1,[(0,.cells cs sz)]⟩ (.int .i64 0)) {f:Nat→Nat×Nat} (hsum:SumT (reZ hv S xs xs.length) f):
  FlatCall Tryz.prog 36 [flowV o xs.length c,ciV c1 c2 r,reFn] ⟨1,[(0,.cells cs sz)]⟩ (.tuple ⟨[.complex .f64 (f (reZ hv S xs xs.length).length).1 (f (reZ hv S xs xs.length).length).2,.int .i64 0]⟩):=by
 have hc':FlatCall Tryz.prog 38 [flowV o xs.length c,ciV c1 c2 r,.bool true] ⟨3,clD o xs.length c c1 c2 r++[(0,.cells cs sz)]⟩ (.int .i64 0):=FlatCall.one hc hf (by simp) rfl; have hB:BaseRounds Tryz.prog 1 44 ⟨3,clD o xs.length c c1 c2 r++[(0,.cells cs sz)]⟩ reA (reE o xs.length c nilS (0:Nat)) ⟨3,clD o xs.length c c1 c2 r++[(0,.cells cs sz)]⟩ (.exit 0) (reE o xs.length c (zsS (reZ hv S xs xs.length)) xs.length) (zsH (clD o xs.length c c1 c2 r) cs sz (reZ hv S xs xs.length)):=
  base_count (P:=Tryz.prog) (lo:=1) (sz:=44) (a:=reA) (H0:=⟨3,clD o xs.length c c1 c2 r++[(0,.cells cs sz)]⟩) (E:=fun k:Nat=>reE o xs.length c (zsS (reZ hv S xs k)) k) (H:=fun k=>zsH (clD o xs.length c c1 c2 r) cs sz (reZ hv S xs k)) (ex:=.exit 0)
   (e':=reE o xs.length c (zsS (reZ hv S xs xs.length)) xs.length) (H':=zsH (clD o xs.length c c1 c2 r) cs sz (reZ hv S xs xs.length)) xs.length 0 (fun k _ hk=>by
    have hk':=List.getElem?_eq_getElem (show k<xs.length by omega); exact re_step S hx hn hk' (hs _ (List.getElem_mem _)) (hh _ (List.getElem_mem _))) (base_end (by intro h;cases h) (by simp only[Nat.zero_add];exact re_last _))
 have hB':=@base_loop _ _ _ _ _ _ _ _ _ hB; have hlen:=reZ_len (xs:=xs) (hv:=hv) S xs.length; generalize reZ hv S xs xs.length=js at hB' hsum hlen; have h:=re_top (told Tryz.prog (.exit 0) (reE o xs.length c (zsS js) xs.length) (zsH (clD o xs.length c c1 c2 r) cs sz js)) fiReal (Ex×Env×Objs) rEl rSt (rAp Tryz.prog) (siC (outC subK lengthK)) reH (saysR Tryz.prog 38 (.int .i64 0)) (saysR Tryz.prog 44 (.complex .f64 (f js.length).1 (f js.length).2)) cs sz o xs.length c c1 c2 r (f js.length).1 (f js.length).2 fun ex e O=>some (ex,e,O)
 rw[says_eq hc']at h
 have h:=h.trans (told_eq @hB' _ _)
 rw[leave_then,re_end,says_eq (zs_sum hsum (by omega))]at h
 exact fun_flat (C:=reR la0 [(38,saysV (.int .i64 0) (saysR Tryz.prog 38 (.int .i64 0))),(44,saysV (.complex .f64 (f js.length).1 (f js.length).2) (saysR Tryz.prog 44 (.complex .f64 (f js.length).1 (f js.length).2)))]) (args:=[flowV o xs.length c,ciV c1 c2 r,reFn]) (H:=⟨1,[(0,.cells cs sz)]⟩) (reR_ok _ (.cons (says_ok rfl) h192 (.cons (says_ok rfl) h155 .nil))) zm_ok Tryz.func36 re_body (fun a _=>slimL_ok (told_ok _ _ _ _ a)) (Nat.le_of_ble_eq_true rfl) h (.inr rfl) (vs:=[.complex .f64 (f js.length).1 (f js.length).2,.int .i64 0]) rfl rfl
end
noncomputable def akC (fi:Fi) (st:St) (ap:Ap) (wi:KCFB) (gl:List (Nat×HSum)) (ml:List (Nat×MSum)):Cx:=
 cxM fi Tryz.prog (fun _ _=>none) [(92,sCFB wi)] [] gl ml (mmOf la0 [] st ap)
section
variable (fi:Fi) (R:Type) (st:St) (ap:Ap) (wi:KCFB) (gc:HT) (mt:MT) (ms:MSum) (cs os:List Value) (sz o n c c1 c2 r x y:Nat) (e:Int) (K:Ex→Env→Objs→Option R)
theorem ak_eq:evTop (akC fi st ap wi [(34,saysV (.int .i64 0) gc)] []) 60 noL 1 26 (codeOf 85) (enumE 0 [flowV o n c,ciV c1 c2 r]) ⟨1,[(0,.cells cs sz)]⟩ (takeC [4] [] K) =
  gc R [flowV o n c] ⟨3,[(2,.cells [.complex .f64 c1 c2,.float .f64 r] 0),(1,.cells [.slice (some ⟨0,o,none⟩) n c] 0),(0,.cells cs sz)]⟩ (wi R c1 c2 4787326403894837248 fun t=>bif t then
   (bif geF r 4427038433705197568 then bif leF r 4787326403894837248 then K .ret [(4,.int .i64 0)] [] else K .ret [(4,.int .i64 5)] [] else K .ret [(4,.int .i64 5)] []) else K .ret [(4,.int .i64 5)] []):=by kernel_rfl
theorem re_eq:evTop (akC fi st ap wi [(36,saysV (.tuple ⟨[.complex .f64 x y,.int .i64 e]⟩) gc)] []) 60 noL 1 11 (codeOf 10) (enumE 0 [flowV o n c,ciV c1 c2 r]) ⟨1,[(0,.cells cs sz)]⟩ (takeC [4,5] [] K) =
  gc R [flowV o n c,ciV c1 c2 r,reFn] ⟨3,[(2,.cells [.complex .f64 c1 c2,.float .f64 r] 0),(1,.cells [.slice (some ⟨0,o,none⟩) n c] 0),(0,.cells cs sz)]⟩ (K .ret [(4,.complex .f64 x y),(5,.int .i64 e)] []):=by kernel_rfl
end
theorem h135r:Has Tryz.prog 92:=⟨Tryz.f92,_,Tryz.func92,by kernel_rfl,rfl⟩
noncomputable def akR (gl:List (Nat×HSum)) (ml:List (Nat×MSum)):Cx:=akC fiReal rSt (rAp Tryz.prog) WithinK gl ml
theorem akR_ok {gl:List (Nat×HSum)} (hg:GsOk Tryz.prog gl) {ml:List (Nat×MSum)} (hm:MsOk Tryz.prog ml):(akR gl ml).Ok:=cxM_ok no_meth (.cons k135 h135r .nil) no_ext hg hm (mmOf_ok .nil)
theorem h109:Has Tryz.prog 36:=⟨Tryz.f36,_,Tryz.func36,by kernel_rfl,rfl⟩
theorem ak_body:Tryz.f85.body=some (codeOf 85):=by kernel_rfl
theorem re_body37:Tryz.f10.body=some (codeOf 10):=by kernel_rfl
structure Fits (c1 c2 r:Nat):Prop where
 within:∀(R:Type) (k:Bool→Option R),WithinK R c1 c2 4787326403894837248 k=k true
 lo:geF r 4427038433705197568=true
 hi:leF r 4787326403894837248=true
section
variable {cs:List Value} {sz o n c c1 c2 r:Nat}
theorem asked_call (hf:inns 0 cs=true) (hc:FlatCall Tryz.prog 34 [flowV o n c] ⟨1,[(0,.cells cs sz)]⟩ (.int .i64 0)) (hr:Fits c1 c2 r):FlatCall Tryz.prog 85 [flowV o n c,ciV c1 c2 r] ⟨1,[(0,.cells cs sz)]⟩ (.int .i64 0):=by
 have hc':FlatCall Tryz.prog 34 [flowV o n c] ⟨3,[(2,.cells [.complex .f64 c1 c2,.float .f64 r] 0),(1,.cells [.slice (some ⟨0,o,none⟩) n c] 0),(0,.cells cs sz)]⟩ (.int .i64 0):=FlatCall.one hc hf (by simp) rfl; have h:=ak_eq fiReal (Ex×Env×Objs) rSt (rAp Tryz.prog) WithinK (saysR Tryz.prog 34 (.int .i64 0)) cs sz o n c c1 c2 r fun ex e O=>some (ex,e,O)
 rw[says_eq hc',hr.within,cond_true,hr.lo,cond_true,hr.hi,cond_true]at h
 exact fun_flat (C:=akR [(34,saysV (.int .i64 0) (saysR Tryz.prog 34 (.int .i64 0)))] []) (args:=[flowV o n c,ciV c1 c2 r]) (H:=⟨1,[(0,.cells cs sz)]⟩) (akR_ok (.cons (says_ok rfl) h107 .nil) .nil) zm_ok (L:=noL) Tryz.func85 ak_body (fun a _=>noL_ok) (Nat.le_of_ble_eq_true rfl) h (.inr rfl) (vs:=[.int .i64 0]) rfl rfl
def reV (x y:Nat) (e:Int):Value:=.tuple ⟨[.complex .f64 x y,.int .i64 e]⟩
theorem residues_call {x y:Nat} {e:Int} (hf:inns 0 cs=true) (hc:FlatCall Tryz.prog 36 [flowV o n c,ciV c1 c2 r,reFn] ⟨1,[(0,.cells cs sz)]⟩ (reV x y e)):FlatCall Tryz.prog 10 [flowV o n c,ciV c1 c2 r] ⟨1,[(0,.cells cs sz)]⟩ (reV x y e):=by
 have hc':FlatCall Tryz.prog 36 [flowV o n c,ciV c1 c2 r,reFn] ⟨3,[(2,.cells [.complex .f64 c1 c2,.float .f64 r] 0),(1,.cells [.slice (some ⟨0,o,none⟩) n c] 0),(0,.cells cs sz)]⟩ (reV x y e):=FlatCall.one hc hf (by simp) rfl; have h:=re_eq fiReal (Ex×Env×Objs) rSt (rAp Tryz.prog) WithinK (saysR Tryz.prog 36 (reV x y e)) cs sz o n c c1 c2 r x y e fun ex e O=>some (ex,e,O)
 rw[says_eq hc']at h
 exact fun_flat (C:=akR [(36,saysV (reV x y e) (saysR Tryz.prog 36 (reV x y e)))] []) (args:=[flowV o n c,ciV c1 c2 r]) (H:=⟨1,[(0,.cells cs sz)]⟩) (akR_ok (.cons (says_ok rfl) h109 .nil) .nil) zm_ok (L:=noL) Tryz.func10 re_body37 (fun a _=>noL_ok) (Nat.le_of_ble_eq_true rfl) h (.inr rfl) (vs:=[.complex .f64 x y,.int .i64 e]) rfl rfl
end
theorem zl_times (R:Type) (a b:Nat) (k:Value→Option R):evFn (cx Tryz.prog []) 60 16 [.complex .f64 a b] k=timesK R a b fun x y=>k (.complex .f64 x y):=by kernel_rfl
def placeT0:List (Nat×Nat×Nat):=[(0,4613937818241073152,0),(4591738658415193368,4613905289146325980,4598968779397875489),(4596242258042563864,4613808015135049092,4603446871754488968),(4598977298231927250,4613646933009146468,4606019175331163784),(4600745857669934360,4613423594077546996,4607849178062847754),(4602514417107941470,4613140149216251461,4609047765677586604),(4603480897859297746,4612799328154220858,4610185016855862572),(4604365177578301301,4612404413184594289,4611249979247144129),(4605249457297304856,4611959207554411738,4611959207554411737),(4606133737016308411,4611249979247144130,4612404413184594288),(4607018016735311966,4610185016855862574,4612799328154220858),(4607542357627166464,4609047765677586606,4613140149216251460),(4607984497486668242,4607849178062847755,4613423594077546996),(4608426637346170020,4606019175331163782,4613646933009146468),(4608868777205671797,4603446871754488969,4613808015135049092),(4609310917065173574,4598968779397875498,4613905289146325980)]
def placeT1:List (Nat×Nat×Nat):=[(4609753056924675352,4371439675322042880,4613937818241073152),(4610195196784177130,13822340816252651300,4613905289146325980),(4610637336643678907,13826818908609264774,4613808015135049092),(4611079476503180684,13829391212185939587,4613646933009146468),(4611521616362682462,13831221214917623562,4613423594077546996),(4611824887324786072,13832419802532362413,4613140149216251461),(4612045957254536960,13833557053710638377,4612799328154220860),(4612267027184287849,13834622016101919934,4612404413184594290),(4612488097114038738,13835331244409187545,4611959207554411738),(4612709167043789627,13835776450039370097,4611249979247144129),(4612930236973540516,13836171365008996667,4610185016855862572),(4613151306903291404,13836512186071027268,4609047765677586606),(4613372376833042293,13836795630932322804,4607849178062847756),(4613593446762793182,13837018969863922276,4606019175331163784),(4613814516692544070,13837180051989824900,4603446871754488976),(4614035586622294959,13837277326001101788,4598968779397875502)]
def placeT2:List (Nat×Nat×Nat):=[(4614256656552045848,13837309855095848960,4375943274949413376),(4614477726481796737,13837277326001101788,13822340816252651296),(4614698796411547626,13837180051989824900,13826818908609264778),(4614919866341298514,13837018969863922276,13829391212185939586),(4615140936271049403,13836795630932322804,13831221214917623561),(4615362006200800292,13836512186071027269,13832419802532362412),(4615583076130551180,13836171365008996668,13833557053710638377),(4615804146060302069,13835776450039370098,13834622016101919934),(4616025215990052958,13835331244409187546,13835331244409187545),(4616217951987281123,13834622016101919943,13835776450039370094),(4616328486952156568,13833557053710638380,13836171365008996666),(4616439021917032012,13832419802532362415,13836512186071027268),(4616549556881907456,13831221214917623570,13836795630932322803),(4616660091846782901,13829391212185939593,13837018969863922276),(4616770626811658345,13826818908609264787,13837180051989824899),(4616881161776533790,13822340816252651289,13837277326001101788)]
def placeT3:List (Nat×Nat×Nat):=[(4616991696741409234,13601956002331551616,13837309855095848960),(4617102231706284678,4598968779397875461,13837277326001101788),(4617212766671160123,4603446871754488968,13837180051989824900),(4617323301636035567,4606019175331163776,13837018969863922276),(4617433836600911012,4607849178062847757,13836795630932322804),(4617544371565786456,4609047765677586604,13836512186071027269),(4617654906530661900,4610185016855862568,13836171365008996668),(4617765441495537345,4611249979247144130,13835776450039370096),(4617875976460412789,4611959207554411737,13835331244409187546),(4617986511425288233,4612404413184594286,13834622016101919943),(4618097046390163678,4612799328154220858,13833557053710638380),(4618207581355039122,4613140149216251460,13832419802532362416),(4618318116319914566,4613423594077546995,13831221214917623570),(4618428651284790011,4613646933009146468,13829391212185939594),(4618539186249665455,4613808015135049091,13826818908609264788),(4618649721214540900,4613905289146325980,13822340816252651292)]
def lookP (t:Nat):List (Nat×Nat×Nat)→Option (Nat×Nat)
 |[]=>none
 |(a,x,y)::r=>bif Nat.beq a t then some (x,y) else lookP t r
def lookT (z1 z2:Nat):List (Nat×Nat×Nat×Nat)→Option (Nat×Nat)
 |[]=>none
 |(a,b,x,y)::r=>bif Nat.beq a z1 && Nat.beq b z2 then some (x,y) else lookT z1 z2 r
def sPlace:Sum:=fun R args k=>match args with
 |[.float .f64 l,.float .f64 t]=>bif Nat.beq l 4613937818241073152 then
   match lookP t placeT0 with
   |some (x,y)=>k (.complex .f64 x y)
   |none=>match lookP t placeT1 with
    |some (x,y)=>k (.complex .f64 x y)
    |none=>match lookP t placeT2 with
     |some (x,y)=>k (.complex .f64 x y)
     |none=>match lookP t placeT3 with
      |some (x,y)=>k (.complex .f64 x y)
      |none=>none
  else none
 |_=>none
def eqV:Value→Value→Bool
 |.int j a,.int k b=>decide (j=k) && decide (a=b)
 |.float j a,.float k b=>decide (j=k) && Nat.beq a b
 |.complex j a b,.complex k c d=>decide (j=k) && Nat.beq a c && Nat.beq b d
 |_,_=>false
def eqC:List Value→List Value→Bool
 |[],[]=>true
 |a::r,b::s=>eqV a b && eqC r s
 |_,_=>false
def spV (p:Nat×Nat):Value:=.tuple ⟨[.complex .f64 p.1 p.2,.int .i64 0]⟩
theorem h162:Has Tryz.prog 27:=⟨Tryz.f27,_,Tryz.func27,by kernel_rfl,rfl⟩
theorem h52:Has Tryz.prog 61:=⟨Tryz.f61,_,Tryz.func61,by kernel_rfl,rfl⟩
def isC (v:Option Value) (x y:Nat):Bool:=match v with|some (.complex .f64 a b)=>Nat.beq a x && Nat.beq b y|_=>false
theorem isC_eq {v:Option Value} {x y:Nat} (h:isC v x y=true):v=some (.complex .f64 x y):=by
 unfold isC at h; split at h
 ·simp only[Bool.and_eq_true,Nat.beq_eq]at h
  rw[h.1,h.2]
 ·cases h
def isT (v:Option Value) (x y:Nat):Bool:=match v with|some (.tuple ⟨[.complex .f64 a b,.int .i64 e]⟩)=>Nat.beq a x && Nat.beq b y && decide (e=0)|_=>false
theorem isT_eq {v:Option Value} {x y:Nat} (h:isT v x y=true):v=some (spV (x,y)):=by
 unfold isT at h; split at h
 ·simp only[Bool.and_eq_true,Nat.beq_eq,decide_eq_true_eq]at h
  rw[h.1.1,h.1.2,h.2]
  rfl
 ·cases h
theorem eqV_eq:∀{a b:Value},eqV a b=true→a=b:=by
 intro a b h; unfold eqV at h; split at h
 ·simp only[Bool.and_eq_true,decide_eq_true_eq]at h;rw[h.1,h.2]
 ·simp only[Bool.and_eq_true,decide_eq_true_eq,Nat.beq_eq]at h;rw[h.1,h.2]
 ·simp only[Bool.and_eq_true,decide_eq_true_eq,Nat.beq_eq]at h;rw[h.1.1,h.1.2,h.2]
 ·cases h
theorem eqC_eq:∀{a b:List Value},eqC a b=true→a=b
 |[],[],_=>rfl
 |a::r,b::s,h=>by
  unfold eqC at h; simp only[Bool.and_eq_true]at h
  rw[eqV_eq h.1,eqC_eq h.2]
 |[],_::_,h=>by cases h
 |_::_,[],h=>by cases h
theorem h40:Has Tryz.prog 16:=⟨Tryz.f16,_,Tryz.func16,by kernel_rfl,rfl⟩
theorem k40:SumOk Tryz.prog 16 (sCC timesK):=ok_sCC zm_ok .nil zl_times
def rollL (C:Cx) (n:Nat):Hand:=fun R lo sz a e H k=>evCode C (n+1) lo sz (.loop a) e H k
theorem rollL_ok {C:Cx} (hC:C.Ok) (hmix:C.P.follows .mixedOrders=true) (n:Nat) (a:Code):LOk C.P (rollL C n) a:=fun R lo sz e H k r h=>by
 obtain⟨ex,e',H',h1,h2⟩:=(evCode_sound hC hmix (n+1)).1 lo sz (.loop a) e H k r h
 exact⟨ex,e',H',h1,@h2⟩
abbrev KSpV:=∀ R:Type,Int→Nat→Nat→Nat→Nat→Nat→Nat→Nat→(Nat→Nat→Int→Option R)→Option R
def sSpV (g:KSpV):Sum:=fun R args k=>match args with
 |[.agg ⟨[.int .u8 kind,.complex .f64 a1 a2,.complex .f64 s1 s2,.float .f64 p]⟩,.complex .f64 z1 z2]=>g R kind a1 a2 s1 s2 p z1 z2 fun a b e=>k (.tuple ⟨[.complex .f64 a b,.int .i64 e]⟩)
 |_=>none
abbrev KCI:=∀ R:Type,Nat→Nat→(Int→Option R)→Option R
def sCI (g:KCI):Sum:=fun R args k=>match args with
 |[.complex .f64 a b]=>g R a b fun e=>k (.int .i64 e)
 |_=>none
def noMm:Mm:=mmOf (fun _=>false) [] (fun _ _ _ _ _=>none) (fun _ _ _ _ _ _ _ _ _=>none)
noncomputable def uC (fi:Fi) (l:List (Nat×Sum)) (gl:List (Nat×HSum)) (ml:List (Nat×MSum)):Cx:={ cxM fi Tryz.prog (fun _ _=>none) l [] gl ml noMm with wild:=wildT }
theorem noMm_ok:noMm.Ok Tryz.prog:=⟨(fun t g h=>by cases h),(fun R cs off vs k r h=>by cases h),(fun R t cs n c cx off m k r h=>by cases h)⟩
theorem uC_ok {l:List (Nat×Sum)} (hl:AllOk Tryz.prog l) {gl:List (Nat×HSum)} (hg:GsOk Tryz.prog gl) {ml:List (Nat×MSum)} (hml:MsOk Tryz.prog ml):(uC fiReal l gl ml).Ok:=
 let h:=cxM_ok (P:=Tryz.prog) no_meth hl no_ext hg hml noMm_ok
 {fair:=h.fair,sums:=h.sums,exts:=h.exts,meths:=h.meths,hs:=h.hs,nan1:=h.nan1,gs:=h.gs,ms:=h.ms,mg:=h.mg,mm:=h.mm }
open Ieee
theorem mul_mono' {x y a b:Rat} (h1:x≤a) (h2:y≤b) (hy:0≤y) (ha:0≤a):x*y≤a*b:=
 Rat.le_trans (Rat.mul_le_mul_of_nonneg_right h1 hy) (Rat.mul_le_mul_of_nonneg_left h2 ha)
def roundK (way:Ieee.Toward):KFF:=fun R x k=>match Ieee.double.read x with
 |.nan _ _=>none
 |d=>forceN (Ieee.double.write (d.integral way)) k
def wholeB (tr:KFF):KFB:=fun R p k=>tr R p fun y=>forceB (eqF y p) fun t=>k t
def wholeK:KFB:=wholeB (roundK .zero)
def checkE:KEI:=checkB placeK withinK noughtK wholeK
def wyK:∀ R:Type,Nat→Option R→Option R:=fun R p x=>wholeK R p fun t=>match t with|true=>x|false=>none
def wnK:∀ R:Type,Nat→Option R→Option R:=fun R p x=>wholeK R p fun t=>match t with|true=>none|false=>x
def fitK:KFB:=fun R x k=>withinK R x 4697254411347427328 fun t=>forceB t fun t=>k t
def quarterK:KFFI2:=quarterB fiReal fitK (roundK .even) lessK
def turnK:KFF2:=turnB quarterK stepsK
def expK:KFF:=expB fiReal (roundK .even) risingK scaleK
def cexpK:KCC:=cexpB expK turnK
def realK:KCFC:=realB powLogK sclK cexpK
def wpowK:KW:=fun R a b n k=>
 bif n == 0 then k 4607182418800017408 0 else bif n == 1 then k a b else bif n == 2 then wsteps mulK a b (wbits 2) a b k else bif n == 3 then wsteps mulK a b (wbits 3) a b k
 else bif n == 4 then wsteps mulK a b (wbits 4) a b k else bif n == 5 then wsteps mulK a b (wbits 5) a b k else bif n == 6 then wsteps mulK a b (wbits 6) a b k
 else bif n == 7 then wsteps mulK a b (wbits 7) a b k else bif n == 8 then wsteps mulK a b (wbits 8) a b k else bif n == 9 then wsteps mulK a b (wbits 9) a b k
 else bif n == 10 then wsteps mulK a b (wbits 10) a b k else none
def vS1 {R:Type} (a1 a2 s1 s2 p z1 z2:Nat) (er:Int→Option R) (ok:Nat→Nat→Option R):Option R:=valP (checkB placeK withinK noughtK wholeK) placeK noughtK subK 1 p (fun x=>x) a1 a2 s1 s2 z1 z2 er (fun d1 d2=>(toldE FiniteK er ok) s1 s2) (fun d1 d2=>(toldE FiniteK er ok) s1 s2)
def vO1 {R:Type} (a1 a2 s1 s2 p z1 z2:Nat) (er:Int→Option R) (ok:Nat→Nat→Option R):Option R:=valO (checkB placeK withinK noughtK wholeK) placeK noughtK subK sclK a1 a2 s1 s2 p z1 z2 er (fun c1 c2 d1 d2=>divK R c1 c2 d1 d2 (toldE FiniteK er ok))
def vD1_1 {R:Type} (a1 a2 s1 s2 p z1 z2:Nat) (er:Int→Option R) (ok:Nat→Nat→Option R):Option R:=valP (checkB placeK withinK noughtK wholeK) placeK noughtK subK 3 4607182418800017408 (fun x=>x) a1 a2 s1 s2 z1 z2 er (fun _ _=>er 6) (fun d1 d2=>leafD divK sclK wpowK (some 13830554455654793216) 2 s1 s2 d1 d2 (toldE FiniteK er ok))
def vD1_2 {R:Type} (a1 a2 s1 s2 p z1 z2:Nat) (er:Int→Option R) (ok:Nat→Nat→Option R):Option R:=valP (checkB placeK withinK noughtK wholeK) placeK noughtK subK 3 4611686018427387904 (fun x=>x) a1 a2 s1 s2 z1 z2 er (fun _ _=>er 6) (fun d1 d2=>leafD divK sclK wpowK (some 13835058055282163712) 3 s1 s2 d1 d2 (toldE FiniteK er ok))
def vD1_3 {R:Type} (a1 a2 s1 s2 p z1 z2:Nat) (er:Int→Option R) (ok:Nat→Nat→Option R):Option R:=valP (checkB placeK withinK noughtK wholeK) placeK noughtK subK 3 4613937818241073152 (fun x=>x) a1 a2 s1 s2 z1 z2 er (fun _ _=>er 6) (fun d1 d2=>leafD divK sclK wpowK (some 13837309855095848960) 4 s1 s2 d1 d2 (toldE FiniteK er ok))
def vD1_4 {R:Type} (a1 a2 s1 s2 p z1 z2:Nat) (er:Int→Option R) (ok:Nat→Nat→Option R):Option R:=valP (checkB placeK withinK noughtK wholeK) placeK noughtK subK 3 4616189618054758400 (fun x=>x) a1 a2 s1 s2 z1 z2 er (fun _ _=>er 6) (fun d1 d2=>leafD divK sclK wpowK (some 13839561654909534208) 5 s1 s2 d1 d2 (toldE FiniteK er ok))
def vD1_5 {R:Type} (a1 a2 s1 s2 p z1 z2:Nat) (er:Int→Option R) (ok:Nat→Nat→Option R):Option R:=valP (checkB placeK withinK noughtK wholeK) placeK noughtK subK 3 4617315517961601024 (fun x=>x) a1 a2 s1 s2 z1 z2 er (fun _ _=>er 6) (fun d1 d2=>leafD divK sclK wpowK (some 13840687554816376832) 6 s1 s2 d1 d2 (toldE FiniteK er ok))
def vD1_6 {R:Type} (a1 a2 s1 s2 p z1 z2:Nat) (er:Int→Option R) (ok:Nat→Nat→Option R):Option R:=valP (checkB placeK withinK noughtK wholeK) placeK noughtK subK 3 4618441417868443648 (fun x=>x) a1 a2 s1 s2 z1 z2 er (fun _ _=>er 6) (fun d1 d2=>leafD divK sclK wpowK (some 13841813454723219456) 7 s1 s2 d1 d2 (toldE FiniteK er ok))
def vD1_7 {R:Type} (a1 a2 s1 s2 p z1 z2:Nat) (er:Int→Option R) (ok:Nat→Nat→Option R):Option R:=valP (checkB placeK withinK noughtK wholeK) placeK noughtK subK 3 4619567317775286272 (fun x=>x) a1 a2 s1 s2 z1 z2 er (fun _ _=>er 6) (fun d1 d2=>leafD divK sclK wpowK (some 13842939354630062080) 8 s1 s2 d1 d2 (toldE FiniteK er ok))
def vD1_8 {R:Type} (a1 a2 s1 s2 p z1 z2:Nat) (er:Int→Option R) (ok:Nat→Nat→Option R):Option R:=valP (checkB placeK withinK noughtK wholeK) placeK noughtK subK 3 4620693217682128896 (fun x=>x) a1 a2 s1 s2 z1 z2 er (fun _ _=>er 6) (fun d1 d2=>leafD divK sclK wpowK (some 13844065254536904704) 9 s1 s2 d1 d2 (toldE FiniteK er ok))
def vC1_1 {R:Type} (a1 a2 s1 s2 p z1 z2:Nat) (er:Int→Option R) (ok:Nat→Nat→Option R):Option R:=valP (checkB placeK withinK noughtK wholeK) placeK noughtK subK 4 4607182418800017408 (wyK R 4607182418800017408) a1 a2 s1 s2 z1 z2 er (fun d1 d2=>leafC mulK sclK wpowK (some 4607182418800017408) 0 s1 s2 d1 d2 (toldE FiniteK er ok)) (fun d1 d2=>leafC mulK sclK wpowK (some 4607182418800017408) 0 s1 s2 d1 d2 (toldE FiniteK er ok))
def vC1_2 {R:Type} (a1 a2 s1 s2 p z1 z2:Nat) (er:Int→Option R) (ok:Nat→Nat→Option R):Option R:=valP (checkB placeK withinK noughtK wholeK) placeK noughtK subK 4 4611686018427387904 (wyK R 4611686018427387904) a1 a2 s1 s2 z1 z2 er (fun d1 d2=>leafC mulK sclK wpowK (some 4611686018427387904) 1 s1 s2 d1 d2 (toldE FiniteK er ok)) (fun d1 d2=>leafC mulK sclK wpowK (some 4611686018427387904) 1 s1 s2 d1 d2 (toldE FiniteK er ok))
def vC1_3 {R:Type} (a1 a2 s1 s2 p z1 z2:Nat) (er:Int→Option R) (ok:Nat→Nat→Option R):Option R:=valP (checkB placeK withinK noughtK wholeK) placeK noughtK subK 4 4613937818241073152 (wyK R 4613937818241073152) a1 a2 s1 s2 z1 z2 er (fun d1 d2=>leafC mulK sclK wpowK (some 4613937818241073152) 2 s1 s2 d1 d2 (toldE FiniteK er ok)) (fun d1 d2=>leafC mulK sclK wpowK (some 4613937818241073152) 2 s1 s2 d1 d2 (toldE FiniteK er ok))
def vC1_4 {R:Type} (a1 a2 s1 s2 p z1 z2:Nat) (er:Int→Option R) (ok:Nat→Nat→Option R):Option R:=valP (checkB placeK withinK noughtK wholeK) placeK noughtK subK 4 4616189618054758400 (wyK R 4616189618054758400) a1 a2 s1 s2 z1 z2 er (fun d1 d2=>leafC mulK sclK wpowK (some 4616189618054758400) 3 s1 s2 d1 d2 (toldE FiniteK er ok)) (fun d1 d2=>leafC mulK sclK wpowK (some 4616189618054758400) 3 s1 s2 d1 d2 (toldE FiniteK er ok))
def vB1 {R:Type} (a1 a2 s1 s2 p z1 z2:Nat) (er:Int→Option R) (ok:Nat→Nat→Option R):Option R:=valP (checkB placeK withinK noughtK wholeK) placeK noughtK subK 4 p (wnK R p) a1 a2 s1 s2 z1 z2 er (fun _ _=>midB 4607182418800017408 p er) (fun d1 d2=>leafB1 mulK sclK realK p s1 s2 d1 d2 (toldE FiniteK er ok))
def vD1 {R:Type} (a1 a2 s1 s2 p z1 z2:Nat) (er:Int→Option R) (ok:Nat→Nat→Option R):Option R:=
 bif Nat.beq p 4607182418800017408 then vD1_1 a1 a2 s1 s2 p z1 z2 er ok
 else bif Nat.beq p 4611686018427387904 then vD1_2 a1 a2 s1 s2 p z1 z2 er ok
 else bif Nat.beq p 4613937818241073152 then vD1_3 a1 a2 s1 s2 p z1 z2 er ok
 else bif Nat.beq p 4616189618054758400 then vD1_4 a1 a2 s1 s2 p z1 z2 er ok
 else bif Nat.beq p 4617315517961601024 then vD1_5 a1 a2 s1 s2 p z1 z2 er ok
 else bif Nat.beq p 4618441417868443648 then vD1_6 a1 a2 s1 s2 p z1 z2 er ok
 else bif Nat.beq p 4619567317775286272 then vD1_7 a1 a2 s1 s2 p z1 z2 er ok
 else bif Nat.beq p 4620693217682128896 then vD1_8 a1 a2 s1 s2 p z1 z2 er ok
 else none
def vC1 {R:Type} (a1 a2 s1 s2 p z1 z2:Nat) (er:Int→Option R) (ok:Nat→Nat→Option R):Option R:=
 bif Nat.beq p 4607182418800017408 then vC1_1 a1 a2 s1 s2 p z1 z2 er ok
 else bif Nat.beq p 4611686018427387904 then vC1_2 a1 a2 s1 s2 p z1 z2 er ok
 else bif Nat.beq p 4613937818241073152 then vC1_3 a1 a2 s1 s2 p z1 z2 er ok
 else bif Nat.beq p 4616189618054758400 then vC1_4 a1 a2 s1 s2 p z1 z2 er ok
 else vB1 a1 a2 s1 s2 p z1 z2 er ok
def spdK' {R:Type} (kind:Int) (a1 a2 s1 s2 p z1 z2:Nat) (er:Int→Option R) (ok:Nat→Nat→Option R):Option R:=
 bif kind == 1 then vS1 a1 a2 s1 s2 p z1 z2 er ok else bif kind == 2 then vO1 a1 a2 s1 s2 p z1 z2 er ok else bif kind == 3 then vD1 a1 a2 s1 s2 p z1 z2 er ok else bif kind == 4 then vC1 a1 a2 s1 s2 p z1 z2 er ok else none
def spdK:KVal:=fun R kind a1 a2 s1 s2 p z1 z2 k=>spdK' kind a1 a2 s1 s2 p z1 z2 (fun e=>k 0 0 e) (fun x y=>k x y 0)
end Go.Vm
