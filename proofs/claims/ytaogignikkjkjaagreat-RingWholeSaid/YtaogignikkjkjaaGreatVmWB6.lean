/- A part of the evaluator and of what is told of floats; no conditions. -/
import Derived.Test.YtaogignikkjkjaaGreatVmWB4
import Derived.Test.YtaogignikkjkjaaGreatVmRA7
import Derived.Test.YtaogignikkjkjaaGreatVmP26
import Derived.Test.YtaogignikkjkjaaGreatVmZY2
set_option linter.unusedSectionVars false
set_option linter.unusedSimpArgs false
set_option linter.unusedVariables false
set_option maxRecDepth 1000000
namespace Go.Vm
open Go.Proofs
theorem fi_real (R:Type) (n:Int) (k:Int→Option R):fiReal R n k=k n:=fiReal_fair R n k
section
variable {cs:List Value} {sz c c1 c2 r:Nat} {xs:List El} {D:SqD}
theorem out_step (hx:ElsAt cs 0 xs) (hn:xs.length<900000) (hD:SqOk D c1 c2 r xs) {h:Nat} {x:El} (hk:xs[h]?=some x):
  BaseOk Tryz.prog 1 89 ⟨3,abD xs.length c c1 c2 r++[(0,.cells cs sz)]⟩ (soE xs.length c (oSq 3 (D.lZ xs h)) h) (lHq xs.length c c1 c2 r cs sz (D.lZ xs h)) .normal
   (soE xs.length c (oSq 3 (D.lZ xs (h+1))) (h+1:Nat)) (lHq xs.length c c1 c2 r cs sz (D.lZ xs (h+1))) (fun Q a w=>sqA.wp Tryz.prog Q a w):=by
 have hkn:=(List.getElem?_eq_some_iff.1 hk).1; have hm:x∈xs:=List.mem_of_getElem? hk; have hl:=D.lZ_len (xs:=xs) h
 rw[D.lZ_step hk]
 generalize D.lZ xs h=js at hl; have hg:=fun(R:Type) (K:Int→Nat→Nat→Nat→Nat→Nat→Option R)=>rEl_at hx hk R K
 have hw:=hD.wi x hm; cases hb:D.wi x with
 |false=>
  cases js with
  |nil=>
   show BaseOk Tryz.prog 1 89 _ (soE xs.length c nilS h) ⟨3,abD xs.length c c1 c2 r++[(0,.cells cs sz)]⟩ _ (soE xs.length c nilS (h+1:Nat)) ⟨3,abD xs.length c c1 c2 r++[(0,.cells cs sz)]⟩ _; exact round_toldL (C:=sqR la0 []) (L:=slimL siT [3,2,1,0] noL) (H0:=⟨3,abD xs.length c c1 c2 r++[(0,.cells cs sz)]⟩) (e:=soE xs.length c nilS h) (H:=⟨3,abD xs.length c c1 c2 r++[(0,.cells cs sz)]⟩) (n:=60) (ts:=soT) (bo:=[2,1]) (bs:=[])
    (A:=abD xs.length c c1 c2 r) (B:=[(0,.cells cs sz)]) (D:=abD xs.length c c1 c2 r) (e1:=soE xs.length c nilS (h+1:Nat)) (O1:=abD xs.length c c1 c2 r) (sqR_ok _ .nil) zm_ok (fun a _=>slimL_ok noL_ok)
    (by
      unfold sqR
      refine(o_nil ..).trans ?_
      rw[decide_eq_true (show (h:Int)<xs.length by omega),cond_true,idx_ok,cond_true,hg,hw,hb,cond_false,fiReal_fair,wrap_up (by omega)]) rfl
    rfl rfl rfl rfl rfl rfl
  |cons j0 js=>
   show BaseOk Tryz.prog 1 89 _ (soE xs.length c (sl3 3 (j0::js).length) h) ⟨4,(3,.cells (cxCells (j0::js)) 1)::abD xs.length c c1 c2 r++[(0,.cells cs sz)]⟩ _ (soE xs.length c (sl3 3 (j0::js).length) (h+1:Nat)) ⟨4,(3,.cells (cxCells (j0::js)) 1)::abD xs.length c c1 c2 r++[(0,.cells cs sz)]⟩ _; exact round_toldL (C:=sqR oa3 []) (L:=slimL siT [4,3,2,1,0] noL) (H0:=⟨3,abD xs.length c c1 c2 r++[(0,.cells cs sz)]⟩) (e:=soE xs.length c (sl3 3 (j0::js).length) h) (H:=⟨4,(3,.cells (cxCells (j0::js)) 1)::abD xs.length c c1 c2 r++[(0,.cells cs sz)]⟩) (n:=60) (ts:=soT) (bo:=[3,2,1]) (bs:=[3])
    (A:=(3,.cells (cxCells (j0::js)) 1)::abD xs.length c c1 c2 r) (B:=[(0,.cells cs sz)]) (D:=abD xs.length c c1 c2 r) (e1:=soE xs.length c (sl3 3 (j0::js).length) (h+1:Nat)) (O1:=(3,.cells (cxCells (j0::js)) 1)::abD xs.length c c1 c2 r) (sqR_ok _ .nil) zm_ok (fun a _=>slimL_ok noL_ok)
    (by
      unfold sqR
      refine(o_some ..).trans ?_
      rw[decide_eq_true (show (h:Int)<xs.length by omega),cond_true,idx_ok,cond_true,hg,hw,hb,cond_false,fiReal_fair,wrap_up (by omega)]) rfl
    (by
      simp only[abD,renOs,renO,renL,renV]
      rw[rens_flat (cx_flat (j0::js))]
      rfl) rfl rfl rfl rfl rfl
 |true=>
  obtain⟨hp,p0,p1⟩:=hD.pw x hm hb
  have hq:=hD.qv x hm hb; have hsum:=hD.f x hm hb; have hdv:=hD.dv x hm hb; have hol:=D.oZ_len (x:=x) (xs:=xs) xs.length; have hw1:IntKind.i64.wrap (D.pw x-1)=D.pw x-1:=wrapI (by omega) (by omega)
  rw[cond_true]
  cases js with
  |nil=>
   show BaseOk Tryz.prog 1 89 _ (soE xs.length c nilS h) ⟨3,abD xs.length c c1 c2 r++[(0,.cells cs sz)]⟩ _ (soE xs.length c (sl3 3 1) (h+1:Nat)) ⟨4,(3,.cells [.complex .f64 (D.qv x).1 (D.qv x).2] 1)::abD xs.length c c1 c2 r++[(0,.cells cs sz)]⟩ _; have hB:=@in_loop0 cs sz c c1 c2 r xs D x (D.pw x) h hx hn hD.wi hdv; have hs:=o_sum0 (D:=(xg x xs.length c c1 c2 r)) (cs:=cs) (sz:=sz) hsum (by omega); generalize D.oZ x xs xs.length=zs at hB hs hq hol; cases zs with
   |nil=>
    have hs:FlatCall Tryz.prog 44 [nilS] ⟨4,(xg x xs.length c c1 c2 r)++[(0,.cells cs sz)]⟩ (.complex .f64 (D.f x 0).1 (D.f x 0).2):=hs; exact round_toldL (C:=sqR limQ0 [(44,saysV (.complex .f64 (D.f x 0).1 (D.f x 0).2) (saysR Tryz.prog 44 (.complex .f64 (D.f x 0).1 (D.f x 0).2)))]) (L:=slimL siT [3,2,1,0] (told Tryz.prog (.exit 2) (siE xs.length c 3 (D.pw x) nilS h nilS xs.length) ⟨4,(xg x xs.length c c1 c2 r)++[(0,.cells cs sz)]⟩))
     (H0:=⟨3,abD xs.length c c1 c2 r++[(0,.cells cs sz)]⟩) (e:=soE xs.length c nilS h) (H:=⟨3,abD xs.length c c1 c2 r++[(0,.cells cs sz)]⟩) (n:=60) (ts:=soT) (bo:=[5,2,1]) (bs:=[5])
     (A:=(3,.cells [.complex .f64 (D.qv x).1 (D.qv x).2] 1)::abD xs.length c c1 c2 r) (B:=[(0,.cells cs sz)]) (D:=abD xs.length c c1 c2 r) (e1:=soE xs.length c (sl3 5 1) (h+1:Nat)) (O1:=(5,.cells [.complex .f64 (D.qv x).1 (D.qv x).2] 1)::abD xs.length c c1 c2 r) (sqR_ok _ (.cons (says_ok rfl) h155 .nil)) zm_ok (fun a _=>slimL_ok (told_ok _ _ _ _ a))
     (by
       unfold sqR
       refine(oq_00 ..).trans ?_
       rw[decide_eq_true (show (h:Int)<xs.length by omega),cond_true,idx_ok,cond_true,hg,hw,hb,cond_true,hp,Option.bind_some,fiReal_fair]
       refine(told_eq @hB _ _).trans ?_
       refine(leave_then ..).trans ?_
       refine(rq_00 ..).trans ?_
       simp only[says_eq hs,fi_real,hw1]
       refine(hq _ _).trans ?_
       rw[wrap_up (by omega)]
       ) rfl
     (by rfl) rfl rfl rfl rfl rfl
   |cons z0 zs=>
    have hs:FlatCall Tryz.prog 44 [(sl3 7 (z0::zs).length)] ⟨8,(xg x xs.length c c1 c2 r)++[(7,.cells (cxCells (z0::zs)) 1),(0,.cells cs sz)]⟩ (.complex .f64 (D.f x (z0::zs).length).1 (D.f x (z0::zs).length).2):=hs; exact round_toldL (C:=sqR limQ0 [(44,saysV (.complex .f64 (D.f x (z0::zs).length).1 (D.f x (z0::zs).length).2) (saysR Tryz.prog 44 (.complex .f64 (D.f x (z0::zs).length).1 (D.f x (z0::zs).length).2)))]) (L:=slimL siT [3,2,1,0] (told Tryz.prog (.exit 2) (siE xs.length c 3 (D.pw x) nilS h (sl3 7 (z0::zs).length) xs.length) ⟨8,(xg x xs.length c c1 c2 r)++[(7,.cells (cxCells (z0::zs)) 1),(0,.cells cs sz)]⟩))
     (H0:=⟨3,abD xs.length c c1 c2 r++[(0,.cells cs sz)]⟩) (e:=soE xs.length c nilS h) (H:=⟨3,abD xs.length c c1 c2 r++[(0,.cells cs sz)]⟩) (n:=60) (ts:=soT) (bo:=[9,2,1]) (bs:=[9])
     (A:=(3,.cells [.complex .f64 (D.qv x).1 (D.qv x).2] 1)::abD xs.length c c1 c2 r) (B:=[(0,.cells cs sz)]) (D:=abD xs.length c c1 c2 r) (e1:=soE xs.length c (sl3 9 1) (h+1:Nat)) (O1:=(9,.cells [.complex .f64 (D.qv x).1 (D.qv x).2] 1)::abD xs.length c c1 c2 r) (sqR_ok _ (.cons (says_ok rfl) h155 .nil)) zm_ok (fun a _=>slimL_ok (told_ok _ _ _ _ a))
     (by
       unfold sqR
       refine(oq_01 ..).trans ?_
       rw[decide_eq_true (show (h:Int)<xs.length by omega),cond_true,idx_ok,cond_true,hg,hw,hb,cond_true,hp,Option.bind_some,fiReal_fair]
       refine(told_eq @hB _ _).trans ?_
       refine(leave_then ..).trans ?_
       refine(rq_01 ..).trans ?_
       simp only[says_eq hs,fi_real,hw1]
       refine(hq _ _).trans ?_
       rw[wrap_up (by omega)]
       ) rfl
     (by rfl) rfl rfl rfl rfl rfl
  |cons j0 js=>
   show BaseOk Tryz.prog 1 89 _ (soE xs.length c (sl3 3 (j0::js).length) h) ⟨4,(3,.cells (cxCells (j0::js)) 1)::abD xs.length c c1 c2 r++[(0,.cells cs sz)]⟩ _ (soE xs.length c (sl3 3 ((j0::js)++[D.qv x]).length) (h+1:Nat)) ⟨4,(3,.cells (cxCells ((j0::js)++[D.qv x])) 1)::abD xs.length c c1 c2 r++[(0,.cells cs sz)]⟩ _
   rw[cx_app,List.length_append]
   have hf:inns 0 (cxCells (j0::js)++cxCells [D.qv x])=true:=inns_app (cx_flat _) (cx_flat _); have hB:=@in_loop1 cs sz c c1 c2 r xs D x (D.pw x) h (j0::js) (j0::js).length hx hn hD.wi hdv; have hs:=o_sum1 (D:=(xf x (j0::js) xs.length c c1 c2 r)) (cs:=cs) (sz:=sz) hsum (by omega); generalize D.oZ x xs xs.length=zs at hB hs hq hol; cases zs with
   |nil=>
    have hs:FlatCall Tryz.prog 44 [nilS] ⟨5,(xf x (j0::js) xs.length c c1 c2 r)++[(0,.cells cs sz)]⟩ (.complex .f64 (D.f x 0).1 (D.f x 0).2):=hs; exact round_toldL (C:=sqR limQ1 [(44,saysV (.complex .f64 (D.f x 0).1 (D.f x 0).2) (saysR Tryz.prog 44 (.complex .f64 (D.f x 0).1 (D.f x 0).2)))]) (L:=slimL siT [4,3,2,1,0] (told Tryz.prog (.exit 2) (siE xs.length c 4 (D.pw x) (sl3 3 (j0::js).length) h nilS xs.length) ⟨5,(xf x (j0::js) xs.length c c1 c2 r)++[(0,.cells cs sz)]⟩))
     (H0:=⟨3,abD xs.length c c1 c2 r++[(0,.cells cs sz)]⟩) (e:=soE xs.length c (sl3 3 (j0::js).length) h) (H:=⟨4,(3,.cells (cxCells (j0::js)) 1)::abD xs.length c c1 c2 r++[(0,.cells cs sz)]⟩) (n:=60) (ts:=soT) (bo:=[6,2,1]) (bs:=[6])
     (A:=(3,.cells (cxCells (j0::js)++cxCells [D.qv x]) 1)::abD xs.length c c1 c2 r) (B:=[(0,.cells cs sz)]) (D:=abD xs.length c c1 c2 r) (e1:=soE xs.length c (sl3 6 ((j0::js).length+1)) (h+1:Nat)) (O1:=(6,.cells (cxCells (j0::js)++cxCells [D.qv x]) 1)::abD xs.length c c1 c2 r) (sqR_ok _ (.cons (says_ok rfl) h155 .nil)) zm_ok (fun a _=>slimL_ok (told_ok _ _ _ _ a))
     (by
       unfold sqR
       refine(oq_10 ..).trans ?_
       rw[decide_eq_true (show (h:Int)<xs.length by omega),cond_true,idx_ok,cond_true,hg,hw,hb,cond_true,hp,Option.bind_some,fiReal_fair]
       refine(told_eq @hB _ _).trans ?_
       refine(leave_then ..).trans ?_
       refine(rq_10 ..).trans ?_
       simp only[says_eq hs,fi_real,hw1]
       refine(hq _ _).trans ?_
       rw[ap78_one (cx_len _) (by omega)]
       rw[wrap_up (by omega)]
       rfl) rfl
     (by simp only[abD,renOs,renO,renL,renV];rw[rens_flat hf];rfl) rfl rfl rfl rfl rfl
   |cons z0 zs=>
    have hs:FlatCall Tryz.prog 44 [(sl3 8 (z0::zs).length)] ⟨9,(xf x (j0::js) xs.length c c1 c2 r)++[(8,.cells (cxCells (z0::zs)) 1),(0,.cells cs sz)]⟩ (.complex .f64 (D.f x (z0::zs).length).1 (D.f x (z0::zs).length).2):=hs; exact round_toldL (C:=sqR limQ1 [(44,saysV (.complex .f64 (D.f x (z0::zs).length).1 (D.f x (z0::zs).length).2) (saysR Tryz.prog 44 (.complex .f64 (D.f x (z0::zs).length).1 (D.f x (z0::zs).length).2)))]) (L:=slimL siT [4,3,2,1,0] (told Tryz.prog (.exit 2) (siE xs.length c 4 (D.pw x) (sl3 3 (j0::js).length) h (sl3 8 (z0::zs).length) xs.length) ⟨9,(xf x (j0::js) xs.length c c1 c2 r)++[(8,.cells (cxCells (z0::zs)) 1),(0,.cells cs sz)]⟩))
     (H0:=⟨3,abD xs.length c c1 c2 r++[(0,.cells cs sz)]⟩) (e:=soE xs.length c (sl3 3 (j0::js).length) h) (H:=⟨4,(3,.cells (cxCells (j0::js)) 1)::abD xs.length c c1 c2 r++[(0,.cells cs sz)]⟩) (n:=60) (ts:=soT) (bo:=[10,2,1]) (bs:=[10])
     (A:=(3,.cells (cxCells (j0::js)++cxCells [D.qv x]) 1)::abD xs.length c c1 c2 r) (B:=[(0,.cells cs sz)]) (D:=abD xs.length c c1 c2 r) (e1:=soE xs.length c (sl3 10 ((j0::js).length+1)) (h+1:Nat)) (O1:=(10,.cells (cxCells (j0::js)++cxCells [D.qv x]) 1)::abD xs.length c c1 c2 r) (sqR_ok _ (.cons (says_ok rfl) h155 .nil)) zm_ok (fun a _=>slimL_ok (told_ok _ _ _ _ a))
     (by
       unfold sqR
       refine(oq_11 ..).trans ?_
       rw[decide_eq_true (show (h:Int)<xs.length by omega),cond_true,idx_ok,cond_true,hg,hw,hb,cond_true,hp,Option.bind_some,fiReal_fair]
       refine(told_eq @hB _ _).trans ?_
       refine(leave_then ..).trans ?_
       refine(rq_11 ..).trans ?_
       simp only[says_eq hs,fi_real,hw1]
       refine(hq _ _).trans ?_
       rw[ap78_one (cx_len _) (by omega)]
       rw[wrap_up (by omega)]
       rfl) rfl
     (by simp only[abD,renOs,renO,renL,renV];rw[rens_flat hf];rfl) rfl rfl rfl rfl rfl
theorem out_last (n:Nat) (js:List (Nat×Nat)):
  BaseOk Tryz.prog 1 89 ⟨3,abD n c c1 c2 r++[(0,.cells cs sz)]⟩ (soE n c (oSq 3 js) n) (lHq n c c1 c2 r cs sz js) (.exit 0) (soE n c (oSq 3 js) n) (lHq n c c1 c2 r cs sz js) (fun Q a w=>sqA.wp Tryz.prog Q a w):=by
 cases js with
 |nil=>
  exact round_toldL (C:=sqR la0 []) (L:=slimL siT [3,2,1,0] noL) (H0:=⟨3,abD n c c1 c2 r++[(0,.cells cs sz)]⟩) (e:=soE n c nilS n) (H:=⟨3,abD n c c1 c2 r++[(0,.cells cs sz)]⟩) (n:=60) (ts:=soT) (bo:=[2,1]) (bs:=[])
    (A:=abD n c c1 c2 r) (B:=[(0,.cells cs sz)]) (D:=abD n c c1 c2 r) (e1:=soE n c nilS n) (O1:=abD n c c1 c2 r) (sqR_ok _ .nil) zm_ok (fun a _=>slimL_ok noL_ok)
    (by
      unfold sqR
      refine(o_nil ..).trans ?_
      rw[decide_eq_false (by omega)];rfl) rfl
    rfl rfl rfl rfl rfl rfl
 |cons j0 js=>
  exact round_toldL (C:=sqR oa3 []) (L:=slimL siT [4,3,2,1,0] noL) (H0:=⟨3,abD n c c1 c2 r++[(0,.cells cs sz)]⟩) (e:=soE n c (sl3 3 (j0::js).length) n) (H:=⟨4,(3,.cells (cxCells (j0::js)) 1)::abD n c c1 c2 r++[(0,.cells cs sz)]⟩) (n:=60) (ts:=soT) (bo:=[3,2,1]) (bs:=[3])
    (A:=(3,.cells (cxCells (j0::js)) 1)::abD n c c1 c2 r) (B:=[(0,.cells cs sz)]) (D:=abD n c c1 c2 r) (e1:=soE n c (sl3 3 (j0::js).length) n) (O1:=(3,.cells (cxCells (j0::js)) 1)::abD n c c1 c2 r) (sqR_ok _ .nil) zm_ok (fun a _=>slimL_ok noL_ok)
    (by
      unfold sqR
      refine(o_some ..).trans ?_
      rw[decide_eq_false (by omega)];rfl) rfl
    (by
      simp only[abD,renOs,renO,renL,renV]
      rw[rens_flat (cx_flat (j0::js))]
      rfl) rfl rfl rfl rfl rfl
theorem l_sum {zs:List (Nat×Nat)} {f:Nat→Nat×Nat} {n:Nat} (hf:SumT zs f) (hn:zs.length<900000):FlatCall Tryz.prog 44 [oSq 3 zs] (lHq n c c1 c2 r cs sz zs) (.complex .f64 (f zs.length).1 (f zs.length).2):=by
 cases zs with
 |nil=>
  show FlatCall Tryz.prog 44 [nilS] _ (.complex .f64 (f 0).1 (f 0).2)
  rw[hf.zero]
  exact sum_none
 |cons z zs=>exact FlatCall.one (b:=3) (sum_call (sz:=1) (c:=(z::zs).length) (cxAt_cells (z::zs)) hn hf) (cx_flat _) (by show _∈_::_;simp) rfl
theorem h11s:Has Tryz.prog 11:=⟨Tryz.f11,_,Tryz.func11,by kernel_rfl,rfl⟩
theorem sqs_body:Tryz.f11.body=some (codeOf 11):=by kernel_rfl
theorem squares_err {n:Nat} (hf:inns 0 cs=true) (hc:FlatCall Tryz.prog 38 [flowV 0 n c,ciV c1 c2 r,.bool true] ⟨1,[(0,.cells cs sz)]⟩ (.int .i64 210)):
  FlatCall Tryz.prog 11 [flowV 0 n c,ciV c1 c2 r] ⟨1,[(0,.cells cs sz)]⟩ (.tuple ⟨[.complex .f64 0 0,.int .i64 210]⟩):=by
 have hc':FlatCall Tryz.prog 38 [flowV 0 n c,ciV c1 c2 r,.bool true] ⟨3,abD n c c1 c2 r++[(0,.cells cs sz)]⟩ (.int .i64 210):=FlatCall.one hc hf (by simp) rfl; have h:=s_err fiReal (Ex×Env×Objs) rEl rSt (rAp Tryz.prog) sgK (siC (outC subK lengthK)) dvK prodK reH negK mulK sclK FiniteK (saysR Tryz.prog 38 (.int .i64 210)) cs sz n c c1 c2 r (fun ex e O=>some (ex,e,O))
 rw[says_eq hc']at h
 exact fun_flat (C:=sqR la0 [(38,saysV (.int .i64 210) (saysR Tryz.prog 38 (.int .i64 210)))]) (args:=[flowV 0 n c,ciV c1 c2 r]) (H:=⟨1,[(0,.cells cs sz)]⟩) (sqR_ok _ (.cons (says_ok rfl) h192 .nil)) zm_ok (L:=noL) Tryz.func11 sqs_body (fun a _=>noL_ok) (Nat.le_of_ble_eq_true rfl) h (.inr rfl) (vs:=[.complex .f64 0 0,.int .i64 210]) rfl rfl
theorem squares_call (hx:ElsAt cs 0 xs) (hn:xs.length<900000) (hD:SqOk D c1 c2 r xs) (hf:inns 0 cs=true)
  (hc:FlatCall Tryz.prog 38 [flowV 0 xs.length c,ciV c1 c2 r,.bool true] ⟨1,[(0,.cells cs sz)]⟩ (.int .i64 0)) {f:Nat→Nat×Nat} (hsum:SumT (D.lZ xs xs.length) f) {u v:Nat}
  (hsc:∀(R:Type) (k:Nat→Nat→Option R),sclK R (f (D.lZ xs xs.length).length).1 (f (D.lZ xs xs.length).length).2 4611686018427387904 k=k u v) (hfin:∀(R:Type) (k:Bool→Option R),FiniteK R u v k=k true):
  FlatCall Tryz.prog 11 [flowV 0 xs.length c,ciV c1 c2 r] ⟨1,[(0,.cells cs sz)]⟩ (.tuple ⟨[.complex .f64 u v,.int .i64 0]⟩):=by
 have hc':FlatCall Tryz.prog 38 [flowV 0 xs.length c,ciV c1 c2 r,.bool true] ⟨3,abD xs.length c c1 c2 r++[(0,.cells cs sz)]⟩ (.int .i64 0):=FlatCall.one hc hf (by simp) rfl; have hB:BaseRounds Tryz.prog 1 89 ⟨3,abD xs.length c c1 c2 r++[(0,.cells cs sz)]⟩ sqA (soE xs.length c nilS (0:Nat)) ⟨3,abD xs.length c c1 c2 r++[(0,.cells cs sz)]⟩ (.exit 0) (soE xs.length c (oSq 3 (D.lZ xs xs.length)) xs.length) (lHq xs.length c c1 c2 r cs sz (D.lZ xs xs.length)):=
  base_count (P:=Tryz.prog) (lo:=1) (sz:=89) (a:=sqA) (H0:=⟨3,abD xs.length c c1 c2 r++[(0,.cells cs sz)]⟩) (E:=fun k:Nat=>soE xs.length c (oSq 3 (D.lZ xs k)) k) (H:=fun k=>lHq xs.length c c1 c2 r cs sz (D.lZ xs k)) (ex:=.exit 0)
   (e':=soE xs.length c (oSq 3 (D.lZ xs xs.length)) xs.length) (H':=lHq xs.length c c1 c2 r cs sz (D.lZ xs xs.length)) xs.length 0 (fun k _ hk=>by
    have hk':=List.getElem?_eq_getElem (show k<xs.length by omega); exact out_step hx hn hD hk') (base_end (by intro h;cases h) (by simp only[Nat.zero_add];exact out_last _ _))
 have hB':=@base_loop _ _ _ _ _ _ _ _ _ hB; have hlen:=D.lZ_len (xs:=xs) xs.length; generalize D.lZ xs xs.length=js at hB' hsum hlen hsc; have h:=s_top (told Tryz.prog (.exit 0) (soE xs.length c (oSq 3 js) xs.length) (lHq xs.length c c1 c2 r cs sz js)) fiReal (Ex×Env×Objs) rEl rSt (rAp Tryz.prog) sgK (siC (outC subK lengthK)) dvK prodK reH negK mulK sclK FiniteK (saysR Tryz.prog 38 (.int .i64 0)) (saysR Tryz.prog 44 (.complex .f64 (f js.length).1 (f js.length).2)) cs sz xs.length c c1 c2 r (f js.length).1 (f js.length).2 fun ex e O=>some (ex,e,O)
 rw[says_eq hc']at h
 have h:=h.trans (told_eq @hB' _ _)
 rw[leave_then,s_end,says_eq (l_sum hsum (by omega)),hsc,hfin,cond_true]at h
 exact fun_flat (C:=sqR la0 [(38,saysV (.int .i64 0) (saysR Tryz.prog 38 (.int .i64 0))),(44,saysV (.complex .f64 (f js.length).1 (f js.length).2) (saysR Tryz.prog 44 (.complex .f64 (f js.length).1 (f js.length).2)))]) (args:=[flowV 0 xs.length c,ciV c1 c2 r]) (H:=⟨1,[(0,.cells cs sz)]⟩) (sqR_ok _ (.cons (says_ok rfl) h192 (.cons (says_ok rfl) h155 .nil))) zm_ok Tryz.func11 sqs_body (fun a _=>slimL_ok (told_ok _ _ _ _ a)) (Nat.le_of_ble_eq_true rfl) h (.inr rfl) (vs:=[.complex .f64 u v,.int .i64 0]) rfl rfl
end
abbrev KWe:=∀ R:Type,Int→Nat→Nat→Nat→Nat→Nat→Nat→Nat→Nat→(Bool→Option R)→Option R
def sWe (g:KWe):Sum:=fun R args k=>match args with
 |[.agg ⟨[.int .u8 kind,.complex .f64 a1 a2,.complex .f64 s1 s2,.float .f64 p]⟩,.agg ⟨[.complex .f64 c1 c2,.float .f64 r]⟩]=>g R kind a1 a2 s1 s2 p c1 c2 r fun t=>k (.bool t)
 |_=>none
def weB (sub:KCCC) (len:KCF):KWe:=fun R kind a1 a2 s1 s2 p c1 c2 r k=>
 bif kind == 1 then k true else bif kind == 4 then k true else sub R a1 a2 c1 c2 fun d1 d2=>len R d1 d2 fun l=>bindF (fbF .quo r 4611686018427387904) fun h=>bif leF l h then k true else bindF (fbF .mul 4611686018427387904 r) fun m=>bif geF l m then k true else k false
theorem z_we (sub:KCCC) (len:KCF) (R:Type) (kind:Int) (a1 a2 s1 s2 p c1 c2 r:Nat) (k:Value→Option R):
  evFn (cx Tryz.prog [(35,sCCC sub),(29,sCF len)]) 60 9 [.agg ⟨[.int .u8 kind,.complex .f64 a1 a2,.complex .f64 s1 s2,.float .f64 p]⟩,.agg ⟨[.complex .f64 c1 c2,.float .f64 r]⟩] k=weB sub len R kind a1 a2 s1 s2 p c1 c2 r fun t=>k (.bool t):=by kernel_rfl
noncomputable def rwC (lim:Nat→Bool) (fi:Fi) (ge:GEl) (st:St) (ap:Ap) (sm:KG2B) (of:KG2C) (we:KWe) (sc:KCFC) (ti:KCC) (ne:KCCFB) (gl:List (Nat×HSum)) (ml:List (Nat×MSum)):Cx:=
 cxM fi Tryz.prog (fun _ _=>none) [(6,sG2B sm),(8,sG2C of),(9,sWe we),(15,sCFC sc),(16,sCC ti),(17,sCCFB ne)] [] gl ml (mmOf lim [(39,gEl ge)] st ap)
def rwArgs (v:Value) (x y r n:Int):List Value:=[v,.agg ⟨[.int .i16 x,.int .i16 y]⟩,.int .i16 r,.int .i64 n]
def limW (b:Nat):Bool:=Nat.beq b 0 || Nat.beq b 2
noncomputable def rwA:Code:=loopNo (codeOf 3) 0
def rwE (n:Int) (k:Int):Env:=[(13,.int .i64 k),(10,.pointer (some ⟨3,0,none⟩)),(12,.pointer (some ⟨4,0,none⟩)),(3,.int .i64 n)]
def rwD (es:List Value) (m c1 c2 rr:Nat):Objs:=[(4,.cells [.complex .f64 c1 c2,.float .f64 rr] 0),(3,.cells [sl3 2 m] 0),(2,.cells es 4)]
def rwPre {R:Type} (sm:KG2B) (m:Nat) (x y r n:Int) (bad go:Option R):Option R:=
 bif decide ((m:Int) > 6) then bad else sm R x y fun t=>bif t then bif decide (r<1) then bad else bif decide (r > 1000) then bad else bif decide (n<128) then bad else bif decide (n > 512) then bad else go else bad
def rwFin {R:Type} (sc:KCFC) (ti:KCC) (ne:KCCFB) (z1 z2 y1 y2 a1 a2 b1 b2 t u:Nat) (yes no:Option R):Option R:=
 ti R z1 z2 fun p1 p2=>sc R p1 p2 4618760256179416344 fun q1 q2=>ti R y1 y2 fun v1 v2=>sc R v1 v2 4618760256179416344 fun w1 w2=>bindF (fbF .mul 4472074429978902528 t) fun d=>ne R a1 a2 q1 q2 d fun b=>bif b then bindF (fbF .mul 4517110426252607488 u) fun d=>ne R b1 b2 w1 w2 d fun b=>bif b then yes else no else no
section
variable (L:Hand) (fi:Fi) (R:Type) (ge:GEl) (st:St) (ap:Ap) (sm:KG2B) (of:KG2C) (we:KWe) (sc:KCFC) (ti:KCC) (ne:KCCFB) (ga g0 gr gs gi gq gm:HT) (mi:MT) (cs es:List Value)
 (sz m c k c1 c2 rr z1 z2 y1 y2 a1 a2 b1 b2 t u:Nat) (x y r n:Int) (v:Value) (K:Ex→Env→Objs→Option R)
theorem rw_bad:evTop (rwC la0 fi ge st ap sm of we sc ti ne [(5,saysV (.bool true) ga)] [(7,saysM (ofV nilS false) g0)]) 60 L 1 157 (codeOf 3) (enumE 0 (rwArgs (.slice (some ⟨0,0,none⟩) m c) x y r n)) ⟨1,[(0,.cells cs sz)]⟩ (takeC [8] [] K) =
  ga R [] ⟨2,[(1,.cells [.int .i16 x,.int .i16 y] 0),(0,.cells cs sz)]⟩ (rwPre sm m x y r n (K .ret [(8,.bool true)] []) (g0 R [(.slice (some ⟨0,0,none⟩) m c)] ⟨2,[(1,.cells [.int .i16 x,.int .i16 y] 0),(0,.cells cs sz)]⟩ <| of R x y fun c1 c2=>forceN (floatOfInt .f64 r) fun rr=>K .ret [(8,.bool true)] [])):=by kernel_rfl
theorem rw_badc:evTop (rwC limW fi ge st ap sm of we sc ti ne [(5,saysV (.bool true) ga)] [(7,leavesV 4 (fun b=>ofV (sl3 b m) false) mi)]) 60 L 1 157 (codeOf 3) (enumE 0 (rwArgs (.slice (some ⟨0,0,none⟩) m c) x y r n)) ⟨1,[(0,.cells cs sz)]⟩ (takeC [8] [] K) =
  ga R [] ⟨2,[(1,.cells [.int .i16 x,.int .i16 y] 0),(0,.cells cs sz)]⟩ (rwPre sm m x y r n (K .ret [(8,.bool true)] []) (mi R [(.slice (some ⟨0,0,none⟩) m c)] ⟨2,[(1,.cells [.int .i16 x,.int .i16 y] 0),(0,.cells cs sz)]⟩ fun es=>of R x y fun c1 c2=>forceN (floatOfInt .f64 r) fun rr=>K .ret [(8,.bool true)] [])):=by kernel_rfl
theorem rw_top:evTop (rwC limW fi ge st ap sm of we sc ti ne [(5,saysV (.bool true) ga),(10,saysV (reV z1 z2 0) gr),(11,saysV (reV y1 y2 0) gs),(12,saysV (reV a1 a2 0) gi),(13,saysV (reV b1 b2 0) gq),(14,saysV (meV t u) gm)] [(7,leavesV 4 (fun b=>ofV (sl3 b m) true) mi)]) 60 (slimL [13,10,12,3] [4,3,2,0] L) 1 157 (codeOf 3) (enumE 0 (rwArgs (.slice (some ⟨0,0,none⟩) m c) x y r n)) ⟨1,[(0,.cells cs sz)]⟩ (takeC [8] [] K) =
  ga R [] ⟨2,[(1,.cells [.int .i16 x,.int .i16 y] 0),(0,.cells cs sz)]⟩ (rwPre sm m x y r n (K .ret [(8,.bool true)] []) (mi R [(.slice (some ⟨0,0,none⟩) m c)] ⟨2,[(1,.cells [.int .i16 x,.int .i16 y] 0),(0,.cells cs sz)]⟩ fun es=>of R x y fun c1 c2=>forceN (floatOfInt .f64 r) fun rr=>L R 1 157 rwA (rwE n 0) ⟨5,rwD es m c1 c2 rr++[(0,.cells cs sz)]⟩
   (leaveE 0 (thenE (fun en H=>evTop (rwC limW fi ge st ap sm of we sc ti ne [(5,saysV (.bool true) ga),(10,saysV (reV z1 z2 0) gr),(11,saysV (reV y1 y2 0) gs),(12,saysV (reV a1 a2 0) gi),(13,saysV (reV b1 b2 0) gq),(14,saysV (meV t u) gm)] [(7,leavesV 4 (fun b=>ofV (sl3 b m) true) mi)]) 60 (slimL [13,10,12,3] [4,3,2,0] L) 1 157 (seqN 8 (codeOf 3)) en H (takeC [8] [] K)) (takeC [8] [] K))))):=by kernel_rfl
theorem rw_tope:evTop (rwC limW fi ge st ap sm of we sc ti ne [(5,saysV (.bool true) ga),(10,saysV (reV 0 0 210) gr),(11,saysV (reV 0 0 210) gs)] [(7,leavesV 4 (fun b=>ofV (sl3 b m) true) mi)]) 60 (slimL [13,10,12,3] [4,3,2,0] L) 1 157 (codeOf 3) (enumE 0 (rwArgs (.slice (some ⟨0,0,none⟩) m c) x y r n)) ⟨1,[(0,.cells cs sz)]⟩ (takeC [8] [] K) =
  ga R [] ⟨2,[(1,.cells [.int .i16 x,.int .i16 y] 0),(0,.cells cs sz)]⟩ (rwPre sm m x y r n (K .ret [(8,.bool true)] []) (mi R [(.slice (some ⟨0,0,none⟩) m c)] ⟨2,[(1,.cells [.int .i16 x,.int .i16 y] 0),(0,.cells cs sz)]⟩ fun es=>of R x y fun c1 c2=>forceN (floatOfInt .f64 r) fun rr=>L R 1 157 rwA (rwE n 0) ⟨5,rwD es m c1 c2 rr++[(0,.cells cs sz)]⟩
   (leaveE 0 (thenE (fun en H=>evTop (rwC limW fi ge st ap sm of we sc ti ne [(5,saysV (.bool true) ga),(10,saysV (reV 0 0 210) gr),(11,saysV (reV 0 0 210) gs)] [(7,leavesV 4 (fun b=>ofV (sl3 b m) true) mi)]) 60 (slimL [13,10,12,3] [4,3,2,0] L) 1 157 (seqN 8 (codeOf 3)) en H (takeC [8] [] K)) (takeC [8] [] K))))):=by kernel_rfl
theorem rw_round:evTop (rwC limW fi ge st ap sm of we sc ti ne [] []) 60 noL 1 157 rwA (rwE n k) ⟨5,rwD es m c1 c2 rr++[(0,.cells cs sz)]⟩ (takeC [13,10,12,3,8] [4,3,2] K) =
  bif decide ((k:Int)<m) then
   bif decide (0≤(k:Int)) && decide ((k:Int)<m) && true then
    ge R es (0+k*4) fun kind a1 a2 s1 s2 p=>we R kind a1 a2 s1 s2 p c1 c2 rr fun t=>bif !t then K .ret (rwE n k++[(8,.bool true)]) (rwD es m c1 c2 rr)
     else fi R (IntKind.i64.wrap (k+1)) fun i=>K .normal (rwE n i) (rwD es m c1 c2 rr)
   else none
  else K (.exit 0) (rwE n k) (rwD es m c1 c2 rr):=by kernel_rfl
theorem rw_mid:evTop (rwC limW fi ge st ap sm of we sc ti ne [(5,saysV (.bool true) ga),(10,saysV (reV z1 z2 0) gr),(11,saysV (reV y1 y2 0) gs),(12,saysV (reV a1 a2 0) gi),(13,saysV (reV b1 b2 0) gq),(14,saysV (meV t u) gm)] [(7,leavesV 4 (fun b=>ofV (sl3 b m) true) mi)]) 60 L 1 157 (seqN 8 (codeOf 3)) (rwE n k) ⟨5,rwD es m c1 c2 rr++[(0,.cells cs sz)]⟩ (takeC [8] [] K) =
  (gr R [.agg ⟨[sl3 2 m]⟩,ciV c1 c2 rr] ⟨5,rwD es m c1 c2 rr++[(0,.cells cs sz)]⟩ <| gs R [.agg ⟨[sl3 2 m]⟩,ciV c1 c2 rr] ⟨5,rwD es m c1 c2 rr++[(0,.cells cs sz)]⟩ <| gi R [.agg ⟨[sl3 2 m]⟩,ciV c1 c2 rr,.int .i64 n] ⟨5,rwD es m c1 c2 rr++[(0,.cells cs sz)]⟩ <| gq R [.agg ⟨[sl3 2 m]⟩,ciV c1 c2 rr,.int .i64 n] ⟨5,rwD es m c1 c2 rr++[(0,.cells cs sz)]⟩ <| gm R [.agg ⟨[sl3 2 m]⟩,ciV c1 c2 rr,.int .i64 n] ⟨5,rwD es m c1 c2 rr++[(0,.cells cs sz)]⟩ <|
   rwFin sc ti ne z1 z2 y1 y2 a1 a2 b1 b2 t u (K .ret [(8,.bool true)] []) (K .ret [(8,.bool false)] [])):=by kernel_rfl
theorem rw_mide:evTop (rwC limW fi ge st ap sm of we sc ti ne [(5,saysV (.bool true) ga),(10,saysV (reV 0 0 210) gr),(11,saysV (reV 0 0 210) gs)] [(7,leavesV 4 (fun b=>ofV (sl3 b m) true) mi)]) 60 L 1 157 (seqN 8 (codeOf 3)) (rwE n k) ⟨5,rwD es m c1 c2 rr++[(0,.cells cs sz)]⟩ (takeC [8] [] K) =
  (gr R [.agg ⟨[sl3 2 m]⟩,ciV c1 c2 rr] ⟨5,rwD es m c1 c2 rr++[(0,.cells cs sz)]⟩ <| gs R [.agg ⟨[sl3 2 m]⟩,ciV c1 c2 rr] ⟨5,rwD es m c1 c2 rr++[(0,.cells cs sz)]⟩ <| K .ret [(8,.bool true)] []):=by kernel_rfl
end
noncomputable def rwN (fi:Fi) (ge:GEl) (st:St) (ap:Ap) (sm:KG2B) (of:KG2C) (we:KWe) (sc:KCFC) (ti:KCC) (ne:KCCFB) (ga g0 gr gs gi gq gm:HT) (z1 z2 y1 y2 a1 a2 b1 b2 t u:Nat):Cx:=
 rwC la0 fi ge st ap sm of we sc ti ne [(5,saysV (.bool true) ga),(10,saysV (reV z1 z2 0) gr),(11,saysV (reV y1 y2 0) gs),(12,saysV (reV a1 a2 0) gi),(13,saysV (reV b1 b2 0) gq),(14,saysV (meV t u) gm)] [(7,saysM (ofV nilS true) g0)]
section
variable (L:Hand) (fi:Fi) (R:Type) (ge:GEl) (st:St) (ap:Ap) (sm:KG2B) (of:KG2C) (we:KWe) (sc:KCFC) (ti:KCC) (ne:KCCFB) (ga g0 gr gs gi gq gm:HT) (mi:MT) (cs es:List Value)
 (sz m c k c1 c2 rr z1 z2 y1 y2 a1 a2 b1 b2 t u:Nat) (x y r n:Int) (v:Value) (K:Ex→Env→Objs→Option R)
theorem rw_nil:evTop (rwN fi ge st ap sm of we sc ti ne ga g0 gr gs gi gq gm z1 z2 y1 y2 a1 a2 b1 b2 t u) 60 (rollL (rwN fi ge st ap sm of we sc ti ne ga g0 gr gs gi gq gm z1 z2 y1 y2 a1 a2 b1 b2 t u) 10) 1 157 (codeOf 3) (enumE 0 (rwArgs (.slice (some ⟨0,0,none⟩) 0 c) x y r n)) ⟨1,[]⟩ (takeC [8] [] K) =
  ga R [] ⟨2,[(1,.cells [.int .i16 x,.int .i16 y] 0)]⟩ (rwPre sm 0 x y r n (K .ret [(8,.bool true)] []) (g0 R [(.slice (some ⟨0,0,none⟩) 0 c)] ⟨2,[(1,.cells [.int .i16 x,.int .i16 y] 0)]⟩ <| of R x y fun c1 c2=>forceN (floatOfInt .f64 r) fun rr=>
   gr R [.agg ⟨[nilS]⟩,ciV c1 c2 rr] ⟨4,[(3,.cells [.complex .f64 c1 c2,.float .f64 rr] 0),(2,.cells [nilS] 0),(1,.cells [.int .i16 x,.int .i16 y] 0)]⟩ <| gs R [.agg ⟨[nilS]⟩,ciV c1 c2 rr] ⟨4,[(3,.cells [.complex .f64 c1 c2,.float .f64 rr] 0),(2,.cells [nilS] 0),(1,.cells [.int .i16 x,.int .i16 y] 0)]⟩ <| gi R [.agg ⟨[nilS]⟩,ciV c1 c2 rr,.int .i64 n] ⟨4,[(3,.cells [.complex .f64 c1 c2,.float .f64 rr] 0),(2,.cells [nilS] 0),(1,.cells [.int .i16 x,.int .i16 y] 0)]⟩ <| gq R [.agg ⟨[nilS]⟩,ciV c1 c2 rr,.int .i64 n] ⟨4,[(3,.cells [.complex .f64 c1 c2,.float .f64 rr] 0),(2,.cells [nilS] 0),(1,.cells [.int .i16 x,.int .i16 y] 0)]⟩ <| gm R [.agg ⟨[nilS]⟩,ciV c1 c2 rr,.int .i64 n] ⟨4,[(3,.cells [.complex .f64 c1 c2,.float .f64 rr] 0),(2,.cells [nilS] 0),(1,.cells [.int .i16 x,.int .i16 y] 0)]⟩ <| rwFin sc ti ne z1 z2 y1 y2 a1 a2 b1 b2 t u (K .ret [(8,.bool true)] []) (K .ret [(8,.bool false)] []))):=by kernel_rfl
theorem rw_nilN:evTop (rwN fi ge st ap sm of we sc ti ne ga g0 gr gs gi gq gm z1 z2 y1 y2 a1 a2 b1 b2 t u) 60 (rollL (rwN fi ge st ap sm of we sc ti ne ga g0 gr gs gi gq gm z1 z2 y1 y2 a1 a2 b1 b2 t u) 10) 1 157 (codeOf 3) (enumE 0 (rwArgs nilS x y r n)) ⟨1,[]⟩ (takeC [8] [] K) =
  ga R [] ⟨2,[(1,.cells [.int .i16 x,.int .i16 y] 0)]⟩ (rwPre sm 0 x y r n (K .ret [(8,.bool true)] []) (g0 R [nilS] ⟨2,[(1,.cells [.int .i16 x,.int .i16 y] 0)]⟩ <| of R x y fun c1 c2=>forceN (floatOfInt .f64 r) fun rr=>
   gr R [.agg ⟨[nilS]⟩,ciV c1 c2 rr] ⟨4,[(3,.cells [.complex .f64 c1 c2,.float .f64 rr] 0),(2,.cells [nilS] 0),(1,.cells [.int .i16 x,.int .i16 y] 0)]⟩ <| gs R [.agg ⟨[nilS]⟩,ciV c1 c2 rr] ⟨4,[(3,.cells [.complex .f64 c1 c2,.float .f64 rr] 0),(2,.cells [nilS] 0),(1,.cells [.int .i16 x,.int .i16 y] 0)]⟩ <| gi R [.agg ⟨[nilS]⟩,ciV c1 c2 rr,.int .i64 n] ⟨4,[(3,.cells [.complex .f64 c1 c2,.float .f64 rr] 0),(2,.cells [nilS] 0),(1,.cells [.int .i16 x,.int .i16 y] 0)]⟩ <| gq R [.agg ⟨[nilS]⟩,ciV c1 c2 rr,.int .i64 n] ⟨4,[(3,.cells [.complex .f64 c1 c2,.float .f64 rr] 0),(2,.cells [nilS] 0),(1,.cells [.int .i16 x,.int .i16 y] 0)]⟩ <| gm R [.agg ⟨[nilS]⟩,ciV c1 c2 rr,.int .i64 n] ⟨4,[(3,.cells [.complex .f64 c1 c2,.float .f64 rr] 0),(2,.cells [nilS] 0),(1,.cells [.int .i16 x,.int .i16 y] 0)]⟩ <| rwFin sc ti ne z1 z2 y1 y2 a1 a2 b1 b2 t u (K .ret [(8,.bool true)] []) (K .ret [(8,.bool false)] []))):=by kernel_rfl
end
section
variable (fi:Fi) (R:Type) (gi gk:GI) (gc:GC) (st:St) (ap:Ap) (sm:KG2B) (of:KG2C) (len:KCF) (sc:KCFC) (ti:KCC) (ne:KCCFB) (ga g0 g1 g2 gx gy:HT) (cs es:List Value)
 (sz n c:Nat) (x y r:Int) (K:Ex→Env→Objs→Option R)
theorem nil_37 (wi:KCFB) (c1 c2 r:Nat) (k:Value→Option R):evFn (cx Tryz.prog [(92,sCFB wi)]) 60 10 [.agg ⟨[nilS]⟩,ciV c1 c2 r] k =
  wi R c1 c2 4787326403894837248 fun t=>forceB t fun t=>bif t then (bif geF r 4427038433705197568 then (bif leF r 4787326403894837248 then bindF (fbF .mul r 4517110426252607488) fun t=>k (reV 0 0 0) else k (reV 0 0 5)) else k (reV 0 0 5)) else k (reV 0 0 5):=by kernel_rfl
end
theorem nil_call {f:FuncId} {c1 c2 r t:Nat} {v v5:Value} {H:AH} (hr:Fits c1 c2 r) (ht:fbF .mul r 4517110426252607488=some t)
  (h:∀(R:Type) (wi:KCFB) (k:Value→Option R),evFn (cx Tryz.prog [(92,sCFB wi)]) 60 f [.agg ⟨[nilS]⟩,ciV c1 c2 r] k =
   wi R c1 c2 4787326403894837248 fun t=>forceB t fun t=>bif t then (bif geF r 4427038433705197568 then (bif leF r 4787326403894837248 then bindF (fbF .mul r 4517110426252607488) fun t=>k v else k v5) else k v5) else k v5):
  FlatCall Tryz.prog f [.agg ⟨[nilS]⟩,ciV c1 c2 r] H v:=by
 have e:evFn (cx Tryz.prog [(92,sCFB WithinK)]) 60 f [.agg ⟨[nilS]⟩,ciV c1 c2 r] some=some v:=by
  rw[h,hr.within,forceB_eq,cond_true,hr.lo,cond_true,hr.hi,cond_true,bindF_val ht]
 obtain⟨u,h1,_,h2⟩:=evFn_sound (cx_ok (.cons k135 h135r .nil)) zm_ok e rfl
 cases h1
 intro ρ w args' hi ha
 rw[ha.flat_eq rfl]
 exact h2 w
theorem h28r:Has Tryz.prog 17:=⟨Tryz.f17,_,Tryz.func17,by kernel_rfl,rfl⟩
theorem h30:Has Tryz.prog 5:=⟨Tryz.f5,_,Tryz.func5,by kernel_rfl,rfl⟩
theorem h31:Has Tryz.prog 7:=⟨Tryz.f7,_,Tryz.func7,by kernel_rfl,rfl⟩
theorem h37:Has Tryz.prog 10:=⟨Tryz.f10,_,Tryz.func10,by kernel_rfl,rfl⟩
open Ieee
def pi2V:Rat:=2*piV
theorem is_pi2:Is 4618760256179416344 pi2V:=by
 refine⟨by decide,false,7074237752028440,-50,by decide,?_⟩
 have h:=p2_half (-50)
 rw[show (-50-1:Int)=-51 by decide]at h
 unfold pi2V piV dv sg
 rw[h]
 grind
theorem pi2_eq:pi2V=7074237752028440/1125899906842624:=by unfold pi2V;rw[piV_eq];grind
theorem pi2_le:pi2V≤63/10:=by rw[pi2_eq];grind
theorem pi2_ge:6≤pi2V:=by rw[pi2_eq];grind
theorem cV_le':cV≤4/25:=by rw[cV_eq];grind
theorem scale_near {r N:Nat} {V K:Rat} {n:Int} {A:Nat} (hi:Is r V) (hV:(V-n*cV).abs≤K*(eps*((A:Rat)/5))) (hK:K≤50) (hK0:0≤K) (hn:n.natAbs≤A) (hA:(A:Rat)≤1000000):
  ∃ w W,fbF .mul r 4618760256179416344=some w∧Is w W∧(W-n).abs≤66*(eps*(A:Rat))∧(A=0→W=0):=by
 have he:=eps_pos; have he1:=eps_tiny; have n1:((n:Int):Rat).abs≤(A:Rat):=by rw[int_abs];exact nat_cast_le hn
 have a0:(0:Rat)≤(A:Rat):=Rat.le_trans (abs_nonneg _) n1; have p0:=pi2_le; have p1:=pi2_ge; have pc:(cV*pi2V-1).abs≤eps:=by
  have:=two_pi_c
  rw[show cV*2*piV=cV*pi2V by unfold pi2V;grind]at this
  exact this
 have v1:(V-n*cV).abs≤10*(eps*(A:Rat)):=by
  have:=Rat.mul_le_mul_of_nonneg_right hK (Rat.mul_nonneg (Rat.le_of_lt he) (show 0≤(A:Rat)/5 by grind))
  grind
 have v2:(V*pi2V-n).abs≤64*(eps*(A:Rat)):=by
  have t1:V*pi2V-n=(V-n*cV)*pi2V+n*(cV*pi2V-1):=by grind
  rw[t1]
  have t2:=abs_add_le ((V-n*cV)*pi2V) (n*(cV*pi2V-1))
  rw[abs_mul,abs_mul,Rat.abs_of_nonneg (show 0≤pi2V by grind)]at t2
  have t3:=Rat.mul_le_mul_of_nonneg_right v1 (show 0≤pi2V by grind); have t4:=Rat.mul_le_mul_of_nonneg_left pc (abs_nonneg (n:Rat)); have t5:=Rat.mul_le_mul_of_nonneg_right n1 (Rat.le_of_lt he); have t6:=Rat.mul_le_mul_of_nonneg_left p0 (show 0≤10*(eps*(A:Rat)) by have:=Rat.mul_nonneg (Rat.le_of_lt he) a0;grind); have t7:=Rat.mul_nonneg (Rat.le_of_lt he) a0
  rw[Rat.mul_comm (A:Rat) eps]at t5
  generalize eps*(A:Rat)=E at *
  generalize ((V-n*cV)*pi2V+n*(cV*pi2V-1)).abs=X at *
  generalize (V-n*cV).abs*pi2V=Y at *
  generalize (n:Rat).abs*(cV*pi2V-1).abs=Z at *
  grind
 have v3:(V*pi2V).abs≤11/10*(A:Rat):=by
  have:=abs_add_le (V*pi2V-n) n
  rw[show V*pi2V-n+n=V*pi2V by grind]at this
  have:=Rat.mul_le_mul_of_nonneg_right he1 a0
  grind
 obtain⟨w,W,e1,e2,e3⟩:=mul_is hi is_pi2 (lt_big (by grind))
 refine⟨w,W,e1,e2,?_⟩
 rcases nat_rat (a:=A) with g|g
 ·have g':(A:Rat)=0:=by rw[g];rfl
  rw[g']at v3 v2 n1
  have hx:V*pi2V=0:=by have:=abs_le_iff.1 v3;grind
  have hn0:(n:Rat)=0:=by have:=abs_le_iff.1 n1;grind
  have hW:=rnd_zero' e3 hx
  refine⟨?_,fun _=>hW⟩
  rw[hW,hn0,g',show (0:Rat)-0=0 by grind,abs_zero]
  grind
 ·refine⟨?_,fun h=>?_⟩
  ·have c:=e3.le v3 (low_1000 (by grind)); have c2:=tri (x:=W) (y:=V*pi2V) (z:=(n:Rat)); have c3:=Rat.mul_nonneg (Rat.le_of_lt he) a0
   rw[show eps*(11/10*(A:Rat))=11/10*(eps*(A:Rat)) by grind]at c
   generalize eps*(A:Rat)=E at *
   generalize (W-(n:Rat)).abs=X at *
   generalize (W-V*pi2V).abs=Y at *
   generalize (V*pi2V-(n:Rat)).abs=Z at *
   grind
  ·subst h; have e0:((0:Nat):Rat)=0:=rfl
   rw[e0]at g
   grind
theorem near_noughts {a b c d m:Nat} {M:Rat} (ha:Is a 0) (hb:Is b 0) (hc:Is c 0) (hd:Is d 0) (hm:Is m M) (hM:0≤M) {R:Type} (k:Bool→Option R):nearK R a b c d m k=k true:=by
 have z:(0:Rat)-0=0:=by grind
 obtain⟨p,X,f1,g1,r1⟩:=sub_is ha hc (lt_big (by rw[z,abs_zero];grind))
 obtain⟨q,Y,f2,g2,r2⟩:=sub_is hb hd (lt_big (by rw[z,abs_zero];grind))
 have hX:=rnd_zero' r1 z; have hY:=rnd_zero' r2 z; subst hX; subst hY
 obtain⟨r,L,i1,l1,l2,l3,l4,s1⟩:=lengthK_most g1 g2 (d:=(2:Rat)^(0:Int)) (by rw[abs_zero];exact Rat.le_of_lt (p2_pos _)) (by rw[abs_zero];exact Rat.le_of_lt (p2_pos _)) (p2_le (by decide)) (p2_le (by decide)) (.inl ⟨rfl,rfl⟩)
 have hL:L=0:=by
  refine Rat.le_antisymm (Rat.not_lt.1 fun hl=>?_) l1
  have:=Rat.mul_pos hl hl
  grind
 subst hL; unfold nearK nearB subK
 rw[bindF_eq f1,bindF_eq f2]
 simp only
 rw[s1,forceB_eq,leF_is i1 hm,decide_eq_true hM]
open Go.Proofs Ieee
theorem fI_is {n:Int} (h:n.natAbs<2^53):Is (fI n) n:=ofInt_is h
theorem smI_le {x y:Int} (h:smI x y=true):x.natAbs≤1000∧y.natAbs≤1000:=by
 unfold smI at h; simp only[Bool.and_eq_true,decide_eq_true_eq]at h; omega
structure FineT (h:Th):Prop where
 small:h.small=true
 pow:h.p.natAbs≤1000
section
variable {h:Th} (f:FineT h)
include f
theorem FineT.xy:h.x.natAbs≤1000∧h.y.natAbs≤1000∧h.s.natAbs≤1000∧h.t.natAbs≤1000:=by
 have:=f.small
 unfold Th.small at this
 rw[Bool.and_eq_true]at this
 have a:=smI_le this.1; have b:=smI_le this.2
 exact⟨a.1,a.2,b.1,b.2⟩
theorem FineT.at:IsC (fI h.x) (fI h.y) h.x h.y:=by
 have:=f.xy
 exact⟨fI_is (by omega),fI_is (by omega)⟩
theorem FineT.st:IsC (fI h.s) (fI h.t) h.s h.t:=by
 have:=f.xy
 exact⟨fI_is (by omega),fI_is (by omega)⟩
end
open Classical in
noncomputable def erE (x:El):Int:=Classical.epsilon fun e=>∀(R:Type) (k:Int→Option R),checkE R x.kind x.a1 x.a2 x.s1 x.s2 x.p k=k e
theorem erE_told {h:Th} (f:FineT h):ToldE erE h.el:=by
 have b:=f.xy; have hp:=f.pow; have key:∃ e,∀(R:Type) (k:Int→Option R),checkE R h.el.kind h.el.a1 h.el.a2 h.el.s1 h.el.s2 h.el.p k=k e:=
  ⟨_,fun R k=>check_eq f.at f.st (by omega) (by omega) (by omega) (by omega) (fI_is (n:=h.p) (by omega)).1 k⟩
 exact Classical.epsilon_spec key
theorem firstEr_all:∀{l:List Int},firstEr l=0→∀ e∈l,e=0
 |[],_,e,h=>by simp at h
 |a::r,h,e,hm=>by
  unfold firstEr at h; split at h
  ·rename_i h0; rcases List.mem_cons.1 hm with rfl|hm
   ·exact h0
   ·exact firstEr_all h e hm
  ·rename_i h0;exact absurd h h0
theorem flowEr_all {er:El→Int} {xs:List El} (h:flowEr er xs=0):∀ x∈xs,er x=0:=by
 unfold flowEr at h; split at h
 ·cases h
 ·exact fun x hx=>firstEr_all h _ (List.mem_map_of_mem hx)
theorem fits_of {x y r:Int} (hs:smI x y=true) (h1:1≤r) (h2:r≤40000):Fits (fI x) (fI y) (fI r):=by
 have b:=smI_le hs; have hc:IsC (fI x) (fI y) x y:=⟨fI_is (by omega),fI_is (by omega)⟩; have hr:Is (fI r) r:=fI_is (by omega)
 exact⟨fun R k=>WithinK_int hc (by omega) (by omega) k,ge_least hr h1,le_most hr (by omega)⟩
open Classical in
noncomputable def lwE (c1 c2:Nat) (x:El):Nat:=Classical.epsilon fun l=>∀(R:Type) (k:Nat→Option R),outC subK lengthK R x.a1 x.a2 c1 c2 k=k l
theorem sight_of {x y r:Int} (hs:smI x y=true) (h1:1≤r) (h2:r≤40000):∃ S:Sight (fI x) (fI y) (fI r),∀ h:Th,FineT h→Seen (fI x) (fI y) S.lw h.el:=by
 have b:=smI_le hs; have hc:IsC (fI x) (fI y) x y:=⟨fI_is (by omega),fI_is (by omega)⟩; have hr:Is (fI r) r:=fI_is (by omega); have r1:((1:Int):Rat)≤(r:Rat):=Rat.intCast_le_intCast.2 h1; have r2:(r:Rat)≤((40000:Int):Rat):=Rat.intCast_le_intCast.2 h2; have o1:((1:Int):Rat)=1:=rfl; have o2:((40000:Int):Rat)=40000:=rfl
 rw[o1]at r1
 rw[o2]at r2
 obtain⟨t,T,e1,i1,q1⟩:=mul_is hr is_hair (lt_big (by rw[p20m];exact abs_le_iff.2 ⟨by grind,by grind⟩))
 have eT:T=r*(2:Rat)^(-20:Int):=q1.rep r (-20) (by omega) (by decide) rfl
 rw[p20m]at eT
 obtain⟨p,_,e2,_,_⟩:=add_is hr i1 (lt_big (by rw[eT];exact abs_le_iff.2 ⟨by grind,by grind⟩))
 obtain⟨m,_,e3,_,_⟩:=sub_is hr i1 (lt_big (by rw[eT];exact abs_le_iff.2 ⟨by grind,by grind⟩))
 refine⟨⟨t,p,m,lwE (fI x) (fI y),e1,e2,e3⟩,fun h f=>?_⟩
 have bb:=f.xy
 obtain⟨d1,d2,hd,hsub⟩:=subK_int f.at hc (by omega) (by omega)
 have n1:=int_abs_le (n:=h.x-x) (N:=2000) (by omega); have n2:=int_abs_le (n:=h.y-y) (N:=2000) (by omega); have o3:(((2000:Nat):Int):Rat)=2000:=rfl
 rw[o3]at n1 n2
 have p11:(2:Rat)^(11:Int)=2048:=by rw[show (11:Int)=((11:Nat):Int) by rfl,p2_nat];rfl
 obtain⟨l,L,_,_,hl⟩:=lengthK_le (d:=(2:Rat)^(11:Int)) hd.1 hd.2 (by rw[p11];grind) (by rw[p11];grind) (p2_le (by decide)) (p2_le (by decide))
 have key:∃ l,∀(R:Type) (k:Nat→Option R),outC subK lengthK R h.el.a1 h.el.a2 (fI x) (fI y) k=k l:=⟨l,fun R k=>by
  unfold outC
  exact(hsub R _).trans (hl R k)⟩
 exact Classical.epsilon_spec key
theorem whole_of {h:Th} (f:FineT h):WholeP h.el:=fun _=>by
 have:=f.pow
 have hi:Is h.el.p ((h.p:Int):Rat):=fI_is (n:=h.p) (by omega)
 refine⟨h.p,toInt_is hi (by omega),?_⟩
 have e:=neF_is hi hi; simp only[decide_true,Bool.not_true]at e; exact e
def mulTau (a:Nat):Nat:=(fbF .mul a 4594902181429758083).getD 0
def wE1 (h:Th):Nat:=mulTau (fI h.s)
def wE2 (h:Th):Nat:=mulTau (fI h.t)
def hvE (x:El):Nat×Nat:=(mulTau x.s1,mulTau x.s2)
theorem mulTau_is {n:Int} {a:Nat} (hn:n.natAbs≤a) (ha:a≤1000):∃ v,fbF .mul (fI n) 4594902181429758083=some (mulTau (fI n))∧Is (mulTau (fI n)) v∧(v-n*cV).abs≤eps*((a:Rat)/5):=by
 have hi:Is (fI n) ((n:Int):Rat):=fI_is (by omega); have n1:=int_abs_le hn; have c0:0≤cV:=by have:=cV_ge;grind
 have c1:=cV_le'; have a1:(a:Rat)≤1000:=nat_cast_le ha; have e0:(((a:Nat):Int):Rat)=(a:Rat):=rfl
 rw[e0]at n1
 have a0:(0:Rat)≤(a:Rat):=Rat.le_trans (abs_nonneg _) n1; have hb:((n:Rat)*cV).abs≤(a:Rat)/5:=by
  rw[abs_mul,Rat.abs_of_nonneg c0]
  have g1:=Rat.mul_le_mul_of_nonneg_right n1 c0; have g2:=Rat.mul_le_mul_of_nonneg_left c1 a0; grind
 obtain⟨w,v,e1,i1,r1⟩:=mul_is hi is_c (lt_big (by grind))
 have same:mulTau (fI n)=w:=by unfold mulTau;rw[e1];rfl
 rw[same]
 refine⟨v,e1,i1,?_⟩
 rcases nat_rat (a:=a) with g|g
 ·have z:n=0:=by omega
  subst z; have ez:((0:Int):Rat)=0:=rfl
  rw[ez]at r1 ⊢
  rw[rnd_zero' r1 (by grind),show (0:Rat)-0*cV=0 by grind,abs_zero]
  exact Rat.mul_nonneg (Rat.le_of_lt eps_pos) (by grind)
 ·exact r1.le hb (low_1000 (by grind))
section
variable {x y r:Int} (S:Sight (fI x) (fI y) (fI r))
def insS (h:Th):Bool:=inB S h.el
theorem els_filter (gs:List Th):(els gs).filter (inB S)=els (gs.filter (insS S)):=by
 unfold els insS
 rw[List.filter_map]
 rfl
theorem reZ_all (gs:List Th):reZ hvE S (els gs) (els gs).length=(gs.filter (insS S)).map fun h=>(wE1 h,wE2 h):=by
 unfold reZ
 rw[List.take_length,els_filter]
 unfold els
 rw[List.map_map]
 rfl
theorem els_length (gs:List Th):(els gs).length=gs.length:=by unfold els;simp
section
variable {cs:List Value} {sz o c:Nat} {gs:List Th} (hx:ElsAt cs o (els gs)) (hf:∀ h∈gs,FineT h) (hl:gs.length≤256) (hfl:inns 0 cs=true) (hFit:Fits (fI x) (fI y) (fI r)) (hsee:∀ h:Th,FineT h→Seen (fI x) (fI y) S.lw h.el)
include hx hf hl hfl hFit
theorem clean_at (he:∀ h∈gs,erE h.el=0) (hse:∀ h∈gs,Seen (fI x) (fI y) S.lw h.el) (b:Bool):FlatCall Tryz.prog 38 [flowV o gs.length c,ciV (fI x) (fI y) (fI r),.bool b] ⟨1,[(0,.cells cs sz)]⟩ (.int .i64 (bif (els gs).any (tooNear S) then 210 else 0)):=by
 have e:=els_length gs; have hck:=check_callE (sz:=sz) (c:=c) (er:=erE) hx (fun _ X hX=>by
  unfold els at hX
  obtain⟨h,h1,rfl⟩:=List.mem_map.1 hX
  exact erE_told (hf h h1))
 have h0:flowEr erE (els gs)=0:=by
  unfold flowEr
  rw[if_neg (by omega)]
  have:∀ l:List Int,(∀ e∈l,e=0)→firstEr l=0:=fun l=>by
   induction l with
   |nil=>intro _;rfl
   |cons a r ih=>
    intro ha; unfold firstEr
    rw[if_pos (ha a (by simp))]
    exact ih fun e he=>ha e (by simp[he])
  refine this _ fun e hm=>?_
  obtain⟨X,hX,rfl⟩:=List.mem_map.1 hm
  unfold els at hX
  obtain⟨h,h1,rfl⟩:=List.mem_map.1 hX
  exact he h h1
 rw[h0,e]at hck
 have ha:=asked_call hfl hck hFit
 have:=clean_call (S:=S) (b:=b) (c:=c) (sz:=sz) hx (by omega) (fun X hX=>by
  unfold els at hX
  obtain⟨h,h1,rfl⟩:=List.mem_map.1 hX
  exact hse h h1) (fun X hX=>by
  unfold els at hX
  obtain⟨h,h1,rfl⟩:=List.mem_map.1 hX
  exact whole_of (hf h h1)) hfl (by rw[e];exact ha)
 rw[e]at this
 exact this
include hsee
end
end
end Go.Vm
