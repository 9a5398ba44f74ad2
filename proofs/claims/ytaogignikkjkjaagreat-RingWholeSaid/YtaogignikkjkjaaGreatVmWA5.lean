/- A part of the evaluator and of what is told of floats; no conditions. -/
import Derived.Test.YtaogignikkjkjaaGreatVmWA0
import Derived.Test.YtaogignikkjkjaaGreatVmRA7
set_option linter.unusedSimpArgs false
set_option linter.unusedVariables false
set_option maxRecDepth 1000000
set_option linter.unusedSectionVars false
namespace Go.Vm
open Go.Proofs
theorem me_all:∀ m,1≤m→m≤6→EqMe m
 |1,_,_=>me_1
 |2,_,_=>me_2
 |3,_,_=>me_3
 |4,_,_=>me_4
 |5,_,_=>me_5
 |6,_,_=>me_6
 |0,h,_=>absurd h (by omega)
 |n+7,_,h=>absurd h (by omega)
def gonM {R:Type} (r n k:Nat) (K:Nat→Nat→Option R):Option R:=
 forceN (floatOfInt .f64 (k:Int)) fun a=>bindF (fbF .mul 4618760256179416344 a) fun a=>forceN (floatOfInt .f64 (n:Int)) fun b=>bindF (fbF .quo a b) fun t=>plaK R r t fun d1 d2=>K d1 d2
structure Met (xs:List El) (c1 c2 r n:Nat) (d:Nat→Nat×Nat) (s q one two:Nat→Nat):Prop where
 gone:∀ k,k<n→∀(R:Type) (K:Nat→Nat→Option R),gonM r n k K=K (d k).1 (d k).2
 len:∀ k,k<n→∀(R:Type) (er:Option R) (K:Nat→Option R),meS addK spdK lengthK (nthE xs) c1 c2 (d k).1 (d k).2 er K xs.length 0 0=K (s k)
 one0:one 0=0
 two0:two 0=0
 one1:∀ k,k<n→fbF .add (one k) (s k)=some (one (k+1))
 sq:∀ k,k<n→fbF .mul (s k) (s k)=some (q k)
 two1:∀ k,k<n→fbF .add (two k) (q k)=some (two (k+1))
noncomputable def meR:Cx:=meC fiReal plaK addK spdK lengthK
theorem meR_ok:meR.Ok:=uC_ok (.cons k27p h27p (.cons k84 h84 (.cons k28s h28s (.cons k38 h38 .nil)))) .nil .nil
theorem me_body:Tryz.f14.body=some (codeOf 14):=by kernel_rfl
section
variable {xs:List El} {sz c c1 c2 r n:Nat} {d:Nat→Nat×Nat} {s q one two:Nat→Nat}
def meH (xs:List El) (sz c c1 c2 r:Nat):AH:=⟨3,abD xs.length c c1 c2 r++[(0,.cells (cellsOf xs) sz)]⟩
theorem me_step (h0:1≤xs.length) (h6:xs.length≤6) (h:Met xs c1 c2 r n d s q one two) (hn:n<100000) {k:Nat} (hk:k<n):
  BaseOk Tryz.prog 1 78 (meH xs sz c c1 c2 r) (meE xs.length c n (one k) (two k) k) (meH xs sz c c1 c2 r) .normal (meE xs.length c n (one (k+1)) (two (k+1)) (k+1:Nat)) (meH xs sz c c1 c2 r) (fun Q a w=>meA.wp Tryz.prog Q a w):=by
 exact round_toldL (C:=meR) (L:=rollL meR 60) meR_ok zm_ok (fun a _=>rollL_ok meR_ok zm_ok 60 a) (H0:=meH xs sz c c1 c2 r) (e:=meE xs.length c n (one k) (two k) k) (H:=meH xs sz c c1 c2 r) (n:=60) (ts:=[11,2,3,4,9,10,6,7,8]) (bo:=[2,1]) (bs:=[]) (A:=abD xs.length c c1 c2 r) (B:=[(0,.cells (cellsOf xs) sz)]) (D:=abD xs.length c c1 c2 r) (e1:=meE xs.length c n (one (k+1)) (two (k+1)) (k+1:Nat)) (O1:=abD xs.length c c1 c2 r)
  (by
    have e:=me_all xs.length h0 h6 fiReal (Ex×Env×Objs) plaK addK spdK lengthK (nthE xs) c sz n (one k) (two k) k c1 c2 r fun ex e O=>some (ex,e,O)
    rw[elsV_cells,elL_nth]at e
    refine e.trans ?_
    rw[decide_eq_true (show (k:Int)<n by omega),cond_true]
    have g:=h.gone k hk (Ex×Env×Objs); unfold gonM at g
    refine(g _).trans ?_
    refine(h.len k hk _ _ _).trans ?_
    rw[bindF_eq (h.one1 k hk),bindF_eq (h.sq k hk),bindF_eq (h.two1 k hk),fiReal_fair,wrap_up (by omega)]) rfl rfl rfl rfl rfl rfl rfl
theorem me_last (h0:1≤xs.length) (h6:xs.length≤6) (x y:Nat):
  BaseOk Tryz.prog 1 78 (meH xs sz c c1 c2 r) (meE xs.length c n x y n) (meH xs sz c c1 c2 r) (.exit 0) (meE xs.length c n x y n) (meH xs sz c c1 c2 r) (fun Q a w=>meA.wp Tryz.prog Q a w):=by
 exact round_toldL (C:=meR) (L:=rollL meR 60) meR_ok zm_ok (fun a _=>rollL_ok meR_ok zm_ok 60 a) (H0:=meH xs sz c c1 c2 r) (e:=meE xs.length c n x y n) (H:=meH xs sz c c1 c2 r) (n:=60) (ts:=[11,2,3,4,9,10,6,7,8]) (bo:=[2,1]) (bs:=[]) (A:=abD xs.length c c1 c2 r) (B:=[(0,.cells (cellsOf xs) sz)]) (D:=abD xs.length c c1 c2 r) (e1:=meE xs.length c n x y n) (O1:=abD xs.length c c1 c2 r)
  (by
    have e:=me_all xs.length h0 h6 fiReal (Ex×Env×Objs) plaK addK spdK lengthK (nthE xs) c sz n x y n c1 c2 r fun ex e O=>some (ex,e,O)
    rw[elsV_cells,elL_nth]at e
    refine e.trans ?_
    rw[decide_eq_false (by omega),cond_false]) rfl rfl rfl rfl rfl rfl rfl
def meV (x y:Nat):Value:=.tuple ⟨[.float .f64 x,.float .f64 y,.bool true]⟩
theorem means_call (h0:1≤xs.length) (h6:xs.length≤6) (h:Met xs c1 c2 r n d s q one two) (hn:n<100000) {t u:Nat}
  (he:∀(R:Type) (K:Nat→Nat→Option R),(bindF (fbF .mul 4618760256179416344 r) fun a=>forceN (floatOfInt .f64 (n:Int)) fun b=>bindF (fbF .quo a b) fun q=>bindF (fbF .mul (one n) q) fun x=>bindF (fbF .mul (two n) q) fun y=>K x y)=K t u):
  FlatCall Tryz.prog 14 [flowV 0 xs.length c,ciV c1 c2 r,.int .i64 n] ⟨1,[(0,.cells (cellsOf xs) sz)]⟩ (meV t u):=by
 have hR:BaseRounds Tryz.prog 1 78 (meH xs sz c c1 c2 r) meA (meE xs.length c n 0 0 (0:Nat)) (meH xs sz c c1 c2 r) (.exit 0) (meE xs.length c n (one n) (two n) n) (meH xs sz c c1 c2 r):=by
  have:=base_count (P:=Tryz.prog) (lo:=1) (sz:=78) (a:=meA) (H0:=meH xs sz c c1 c2 r) (E:=fun k:Nat=>meE xs.length c n (one k) (two k) k) (H:=fun _=>meH xs sz c c1 c2 r) (ex:=.exit 0) (e':=meE xs.length c n (one n) (two n) n) (H':=meH xs sz c c1 c2 r) n 0 (fun k _ hk=>me_step h0 h6 h hn (by omega)) (base_end (by intro h;cases h) (by simp only[Nat.zero_add];exact me_last h0 h6 _ _))
  simp only[h.one0,h.two0]at this
  exact this
 have hB:=@base_loop _ _ _ _ _ _ _ _ _ hR; have ht:=me_top (told Tryz.prog (.exit 0) (meE xs.length c n (one n) (two n) n) (meH xs sz c c1 c2 r)) (Ex×Env×Objs) plaK addK spdK lengthK (cellsOf xs) sz xs.length c n c1 c2 r fun ex e O=>some (ex,e,O)
 have ht:=ht.trans (told_eq @hB _ _)
 rw[leave_then]at ht
 have ht:=ht.trans (me_end _ _ plaK addK spdK lengthK (cellsOf xs) sz xs.length c n (one n) (two n) n c1 c2 r _); have ht:=ht.trans (he (Ex×Env×Objs) fun x y=>some (.ret,[(6,.float .f64 x),(7,.float .f64 y),(8,.bool true)],[])); exact fun_flat (C:=meR) (args:=[flowV 0 xs.length c,ciV c1 c2 r,.int .i64 n]) (H:=⟨1,[(0,.cells (cellsOf xs) sz)]⟩) meR_ok zm_ok Tryz.func14 me_body (fun a _=>slimL_ok (told_ok _ _ _ _ a)) (Nat.le_of_ble_eq_true rfl) ht (.inr rfl) (vs:=[.float .f64 t,.float .f64 u,.bool true]) rfl rfl
end
abbrev KSg:=∀ R:Type,Int→Nat→Nat→Nat→Nat→Nat→(Bool→Option R)→Option R
def sSg (g:KSg):Sum:=fun R args k=>match args with
 |[.agg ⟨[.int .u8 kind,.complex .f64 a1 a2,.complex .f64 s1 s2,.float .f64 p]⟩]=>g R kind a1 a2 s1 s2 p fun t=>bif t then k (.bool true) else k (.bool false)
 |_=>none
abbrev KDv:=∀ R:Type,Int→Nat→Nat→Nat→Nat→Nat→Nat→Nat→Int→(Nat→Nat→Option R)→Option R
def sDv (g:KDv):Sum:=fun R args k=>match args with
 |[.agg ⟨[.int .u8 kind,.complex .f64 a1 a2,.complex .f64 s1 s2,.float .f64 p]⟩,.complex .f64 z1 z2,.int .i64 n]=>g R kind a1 a2 s1 s2 p z1 z2 n fun x y=>k (.complex .f64 x y)
 |_=>none
abbrev KPr:=∀ R:Type,Int→Int→(Nat→Option R)→Option R
def sPr (g:KPr):Sum:=fun R args k=>match args with
 |[.int .i64 a,.int .i64 b]=>g R a b fun w=>k (.float .f64 w)
 |_=>none
def blkIn:Code→Code
 |.block _ c=>c
 |c=>c
def seqF:Code→Code
 |.seq a _=>a
 |c=>c
noncomputable def sqA:Code:=loopNo (codeOf 11) 0
noncomputable def sqB:Code:=loopNo sqA 0
noncomputable def sqX:Code:=blkIn (seqF (seqN 2 sqA))
def sqFn:Value:=.func (.func 39) #[] #[.pointer (some ⟨2,0,none⟩)]
noncomputable def sqC (lim:Nat→Bool) (fi:Fi) (ge:GEl) (st:St) (ap:Ap) (sg:KSg) (si:KSi) (dv:KDv) (pr:KPr) (ov ng:KCC) (mu:KCCC) (sc:KCFC) (fn:KCB) (gl:List (Nat×HSum)):Cx:=
 cxM fi Tryz.prog (fun _ _=>none) [(40,sSg sg),(41,sSi si),(42,sDv dv),(46,sPr pr),(37,sCC ov),(45,sCC ng),(43,sCCC mu),(15,sCFC sc),(91,sCB fn)] [] gl [] (mmOf lim [(39,gEl ge)] st ap)
def soE (n c:Nat) (l:Value) (k:Int):Env:=[(25,.int .i64 k),(24,.int .i64 n),(23,.slice (some ⟨0,0,none⟩) n c),(2,.pointer (some ⟨1,0,none⟩)),(3,.pointer (some ⟨2,0,none⟩)),(7,sqFn),(8,l)]
def siE (n c bx:Nat) (pw:Int) (l:Value) (h:Int) (o:Value) (k:Int):Env:=(39,.int .i64 k)::(38,.int .i64 n)::(37,.slice (some ⟨0,0,none⟩) n c)::(11,.int .i64 pw)::(10,.pointer (some ⟨bx,0,none⟩))::(12,o)::soE n c l h
def xb (bx:Nat) (xk:Int) (x1 x2 y1 y2 xp:Nat):Nat×AObj:=(bx,.cells [.int .u8 xk,.complex .f64 x1 x2,.complex .f64 y1 y2,.float .f64 xp] 0)
def wiX {R:Type} (sg:KSg) (si:KSi) (kind:Int) (a1 a2 s1 s2 p c1 c2 r:Nat) (yes no:Option R):Option R:=
 sg R kind a1 a2 s1 s2 p fun t=>bif t then si R kind a1 a2 c1 c2 r fun v=>bif decide (v<0) then yes else no else no
def siT:List Nat:=[39,38,37,11,10,12,25,24,23,2,3,7,8]
def soT:List Nat:=[25,24,23,2,3,7,8]
section
variable (L:Hand) (fi:Fi) (R:Type) (ge:GEl) (st:St) (ap:Ap) (sg:KSg) (si:KSi) (dv:KDv) (pr:KPr) (ov ng:KCC) (mu:KCCC) (sc:KCFC) (fn:KCB) (ga gs:HT) (cs os ls:List Value) (sz n c j i0 k h c1 c2 r x1 x2 y1 y2 xp z1 z2:Nat) (xk pw:Int) (K:Ex→Env→Objs→Option R)
theorem o_nil:evTop (sqC la0 fi ge st ap sg si dv pr ov ng mu sc fn []) 60 (slimL siT [3,2,1,0] L) 1 89 sqA (soE n c nilS h) ⟨3,abD n c c1 c2 r++[(0,.cells cs sz)]⟩ (takeC soT [2,1] K) =
  bif decide ((h:Int)<n) then
   bif decide (0≤(h:Int)) && decide ((h:Int)<n) && true then
    ge R cs (0+h*4) fun kind a1 a2 s1 s2 p=>wiX sg si kind a1 a2 s1 s2 p c1 c2 r
     ((floatToIntVal .f64 p .i64).bind fun m=>fi R m fun m=>L R 1 89 sqB (siE n c 3 m nilS h nilS 0) ⟨4,xb 3 kind a1 a2 s1 s2 p::((abD n c c1 c2 r++[(0,.cells cs sz)]))⟩
      (leaveE 2 (thenE (fun en H=>evTop (sqC la0 fi ge st ap sg si dv pr ov ng mu sc fn []) 60 (slimL siT [3,2,1,0] L) 1 89 (seqN 5 sqX) en H (leaveE 1 (thenE (fun en H=>evTop (sqC la0 fi ge st ap sg si dv pr ov ng mu sc fn []) 60 (slimL siT [3,2,1,0] L) 1 89 (seqN 3 sqA) en H (takeC soT [2,1] K)) (takeC soT [2,1] K)))) (leaveE 1 (thenE (fun en H=>evTop (sqC la0 fi ge st ap sg si dv pr ov ng mu sc fn []) 60 (slimL siT [3,2,1,0] L) 1 89 (seqN 3 sqA) en H (takeC soT [2,1] K)) (takeC soT [2,1] K))))))
     (fi R (IntKind.i64.wrap (h+1)) fun i=>K .normal (soE n c nilS i) (abD n c c1 c2 r))
   else none
  else K (.exit 0) (soE n c nilS h) (abD n c c1 c2 r):=by kernel_rfl
theorem o_some:evTop (sqC oa3 fi ge st ap sg si dv pr ov ng mu sc fn []) 60 (slimL siT [4,3,2,1,0] L) 1 89 sqA (soE n c (sl3 3 i0) h) ⟨4,(3,.cells ls 1)::(abD n c c1 c2 r++[(0,.cells cs sz)])⟩ (takeC soT [3,2,1] K) =
  bif decide ((h:Int)<n) then
   bif decide (0≤(h:Int)) && decide ((h:Int)<n) && true then
    ge R cs (0+h*4) fun kind a1 a2 s1 s2 p=>wiX sg si kind a1 a2 s1 s2 p c1 c2 r
     ((floatToIntVal .f64 p .i64).bind fun m=>fi R m fun m=>L R 1 89 sqB (siE n c 4 m (sl3 3 i0) h nilS 0) ⟨5,xb 4 kind a1 a2 s1 s2 p::((3,.cells ls 1)::(abD n c c1 c2 r++[(0,.cells cs sz)]))⟩
      (leaveE 2 (thenE (fun en H=>evTop (sqC oa3 fi ge st ap sg si dv pr ov ng mu sc fn []) 60 (slimL siT [4,3,2,1,0] L) 1 89 (seqN 5 sqX) en H (leaveE 1 (thenE (fun en H=>evTop (sqC oa3 fi ge st ap sg si dv pr ov ng mu sc fn []) 60 (slimL siT [4,3,2,1,0] L) 1 89 (seqN 3 sqA) en H (takeC soT [3,2,1] K)) (takeC soT [3,2,1] K)))) (leaveE 1 (thenE (fun en H=>evTop (sqC oa3 fi ge st ap sg si dv pr ov ng mu sc fn []) 60 (slimL siT [4,3,2,1,0] L) 1 89 (seqN 3 sqA) en H (takeC soT [3,2,1] K)) (takeC soT [3,2,1] K))))))
     (fi R (IntKind.i64.wrap (h+1)) fun i=>K .normal (soE n c (sl3 3 i0) i) ((3,.cells ls 1)::abD n c c1 c2 r))
   else none
  else K (.exit 0) (soE n c (sl3 3 i0) h) ((3,.cells ls 1)::abD n c c1 c2 r):=by kernel_rfl
end
section
variable (L:Hand) (fi:Fi) (R:Type) (ge:GEl) (st:St) (ap:Ap) (sg:KSg) (si:KSi) (dv:KDv) (pr:KPr) (ov ng:KCC) (mu:KCCC) (sc:KCFC) (fn:KCB) (ga gs:HT) (cs:List Value) (sz n c k c1 c2 r z1 z2:Nat) (l:Value) (K:Ex→Env→Objs→Option R)
theorem s_err:evTop (sqC la0 fi ge st ap sg si dv pr ov ng mu sc fn [(38,saysV (.int .i64 210) ga)]) 60 noL 1 89 (codeOf 11) (enumE 0 [flowV 0 n c,ciV c1 c2 r]) ⟨1,[(0,.cells cs sz)]⟩ (takeC [4,5] [] K) =
  ga R [flowV 0 n c,ciV c1 c2 r,.bool true] ⟨3,abD n c c1 c2 r++[(0,.cells cs sz)]⟩ (K .ret [(4,.complex .f64 0 0),(5,.int .i64 210)] []):=by kernel_rfl
theorem s_top:evTop (sqC la0 fi ge st ap sg si dv pr ov ng mu sc fn [(38,saysV (.int .i64 0) ga),(44,saysV (.complex .f64 z1 z2) gs)]) 60 (slimL soT [2,1,0] L) 1 89 (codeOf 11) (enumE 0 [flowV 0 n c,ciV c1 c2 r]) ⟨1,[(0,.cells cs sz)]⟩ (takeC [4,5] [] K) =
  ga R [flowV 0 n c,ciV c1 c2 r,.bool true] ⟨3,abD n c c1 c2 r++[(0,.cells cs sz)]⟩ (L R 1 89 sqA (soE n c nilS 0) ⟨3,abD n c c1 c2 r++[(0,.cells cs sz)]⟩
   (leaveE 0 (thenE (fun en H=>evTop (sqC la0 fi ge st ap sg si dv pr ov ng mu sc fn [(38,saysV (.int .i64 0) ga),(44,saysV (.complex .f64 z1 z2) gs)]) 60 (slimL soT [2,1,0] L) 1 89 (seqN 5 (codeOf 11)) en H (takeC [4,5] [] K)) (takeC [4,5] [] K)))):=by kernel_rfl
theorem s_end (H:AH):evTop (sqC la0 fi ge st ap sg si dv pr ov ng mu sc fn [(38,saysV (.int .i64 0) ga),(44,saysV (.complex .f64 z1 z2) gs)]) 60 L 1 89 (seqN 5 (codeOf 11)) (soE n c l k) H (takeC [4,5] [] K) =
  gs R [l] H (sc R z1 z2 4611686018427387904 fun u v=>fn R u v fun t=>bif t then K .ret [(4,.complex .f64 u v),(5,.int .i64 0)] [] else K .ret [(4,.complex .f64 0 0),(5,.int .i64 6)] []):=by kernel_rfl
end
def wbitsX:Nat→List Bool
 |11=>[false,true,true]|12=>[true,false,false]|13=>[true,false,true]|14=>[true,true,false]|15=>[true,true,true]|16=>[false,false,false,false]|17=>[false,false,false,true]|_=>[]
def wpowX:KW:=fun R a b n k=>
 bif n == 11 then wsteps mulK a b (wbitsX 11) a b k else bif n == 12 then wsteps mulK a b (wbitsX 12) a b k else bif n == 13 then wsteps mulK a b (wbitsX 13) a b k else bif n == 14 then wsteps mulK a b (wbitsX 14) a b k else bif n == 15 then wsteps mulK a b (wbitsX 15) a b k else bif n == 16 then wsteps mulK a b (wbitsX 16) a b k else bif n == 17 then wsteps mulK a b (wbitsX 17) a b k else wpowK R a b n k
theorem y_w11 (mul:KCCC) (R:Type) a b (k:Value→Option R):evFn (cx Tryz.prog [(43,sCCC mul)]) 60 90 [.complex .f64 a b,.int .i64 11] k=wsteps mul a b (wbitsX 11) a b fun x y=>k (.complex .f64 x y):=by kernel_rfl
theorem y_w12 (mul:KCCC) (R:Type) a b (k:Value→Option R):evFn (cx Tryz.prog [(43,sCCC mul)]) 60 90 [.complex .f64 a b,.int .i64 12] k=wsteps mul a b (wbitsX 12) a b fun x y=>k (.complex .f64 x y):=by kernel_rfl
theorem y_w13 (mul:KCCC) (R:Type) a b (k:Value→Option R):evFn (cx Tryz.prog [(43,sCCC mul)]) 60 90 [.complex .f64 a b,.int .i64 13] k=wsteps mul a b (wbitsX 13) a b fun x y=>k (.complex .f64 x y):=by kernel_rfl
theorem y_w14 (mul:KCCC) (R:Type) a b (k:Value→Option R):evFn (cx Tryz.prog [(43,sCCC mul)]) 60 90 [.complex .f64 a b,.int .i64 14] k=wsteps mul a b (wbitsX 14) a b fun x y=>k (.complex .f64 x y):=by kernel_rfl
theorem y_w15 (mul:KCCC) (R:Type) a b (k:Value→Option R):evFn (cx Tryz.prog [(43,sCCC mul)]) 60 90 [.complex .f64 a b,.int .i64 15] k=wsteps mul a b (wbitsX 15) a b fun x y=>k (.complex .f64 x y):=by kernel_rfl
theorem y_w16 (mul:KCCC) (R:Type) a b (k:Value→Option R):evFn (cx Tryz.prog [(43,sCCC mul)]) 60 90 [.complex .f64 a b,.int .i64 16] k=wsteps mul a b (wbitsX 16) a b fun x y=>k (.complex .f64 x y):=by kernel_rfl
theorem y_w17 (mul:KCCC) (R:Type) a b (k:Value→Option R):evFn (cx Tryz.prog [(43,sCCC mul)]) 60 90 [.complex .f64 a b,.int .i64 17] k=wsteps mul a b (wbitsX 17) a b fun x y=>k (.complex .f64 x y):=by kernel_rfl
theorem k_powX:SumOk Tryz.prog 90 (sKW wpowX):=by
 intro R args k r hr; unfold sKW at hr;split at hr
 ·rename_i a b n; unfold wpowX at hr; have use:∀{i:Int} {l:List Bool},(∀(R:Type) (k:Value→Option R),evFn (cx Tryz.prog [(43,sCCC mulK)]) 60 90 [.complex .f64 a b,.int .i64 i] k=wsteps mulK a b l a b fun x y=>k (.complex .f64 x y))→n=i→wsteps mulK a b l a b (fun x y=>k (.complex .f64 x y))=some r→
    inns 0 [Value.complex .f64 a b,.int .i64 n]=true∧∃ v,k v=some r∧flat v=true∧∀ w,Calls Tryz.prog 90 ⟨[.complex .f64 a b,.int .i64 n]⟩ w fun e w'=>e=.returned v∧RowKit.Below w.heap.size w w':=fun{i l} h hn hr=>by
   subst hn
   exact⟨rfl,evFn_sound (cx_ok (.cons k22 h22 .nil)) zm_ok ((h R k).trans hr) rfl⟩
  cases h11:(n == 11) with
  |true=>rw[h11]at hr;exact use (y_w11 mulK · a b ·) (by simpa using h11) hr
  |false=>
  rw[h11,cond_false]at hr
  cases h12:(n == 12) with
  |true=>rw[h12]at hr;exact use (y_w12 mulK · a b ·) (by simpa using h12) hr
  |false=>
  rw[h12,cond_false]at hr
  cases h13:(n == 13) with
  |true=>rw[h13]at hr;exact use (y_w13 mulK · a b ·) (by simpa using h13) hr
  |false=>
  rw[h13,cond_false]at hr
  cases h14:(n == 14) with
  |true=>rw[h14]at hr;exact use (y_w14 mulK · a b ·) (by simpa using h14) hr
  |false=>
  rw[h14,cond_false]at hr
  cases h15:(n == 15) with
  |true=>rw[h15]at hr;exact use (y_w15 mulK · a b ·) (by simpa using h15) hr
  |false=>
  rw[h15,cond_false]at hr
  cases h16:(n == 16) with
  |true=>rw[h16]at hr;exact use (y_w16 mulK · a b ·) (by simpa using h16) hr
  |false=>
  rw[h16,cond_false]at hr
  cases h17:(n == 17) with
  |true=>rw[h17]at hr;exact use (y_w17 mulK · a b ·) (by simpa using h17) hr
  |false=>
  rw[h17,cond_false]at hr
  exact k_pow R [.complex .f64 a b,.int .i64 n] k r hr
 ·cases hr
def prodT:List (Int×Int×Nat):=[(1,0,4607182418800017408),(1,1,4607182418800017408),(1,2,4611686018427387904),(1,3,4618441417868443648),(1,4,4627448617123184640),(1,5,4638144666238189568),(1,6,4649544402794971136),(1,7,4662263553305083904),(1,8,4675774352187195392),(1,9,4689977843394805760),(2,2,4611686018427387904),(2,3,4618441417868443648),(2,4,4627448617123184640),(2,5,4638144666238189568),(2,6,4649544402794971136),(2,7,4662263553305083904),(2,8,4675774352187195392),(2,9,4689977843394805760),(2,10,4705047200009289728),(3,3,4613937818241073152),(3,4,4622945017495814144),(3,5,4633641066610819072),(3,6,4645040803167600640),(3,7,4657759953677713408),(3,8,4671270752559824896),(3,9,4685474243767435264),(3,10,4700543600381919232),(3,11,4716122752434569216),(4,4,4616189618054758400),(4,5,4626322717216342016),(4,6,4638144666238189568),(4,7,4650599933957636096),(4,8,4664110732839747584),(4,9,4678545121489190912),(4,10,4693442404533927936),(4,11,4708901400581505024),(4,12,4725129951689310208),(5,5,4617315517961601024),(5,6,4629137466983448576),(5,7,4641592734702895104),(5,8,4655103533585006592),(5,9,4669537922234449920),(5,10,4684435205279186944),(5,11,4699894201326764032),(5,12,4716122752434569216),(5,13,4732982015194824704),(6,6,4618441417868443648),(6,7,4631107791820423168),(6,8,4644618590702534656),(6,9,4658868261398511616),(6,10,4674041521861820416),(6,11,4689458324150681600),(6,12,4705826478875475968),(6,13,4722233614723448832),(6,14,4739377412624613376),(7,7,4619567317775286272),(7,8,4633078116657397760),(7,9,4647574077957996544),(7,10,4662263553305083904),(7,11,4677852429163692032),(7,12,4693961923778052096),(7,13,4710904813846528000),(7,14,4727898015161909248),(7,15,4745404563316539392),(8,8,4620693217682128896),(8,9,4634766966517661696),(8,10,4649544402794971136),(8,11,4665430146793078784),(8,12,4681267512279564288),(8,13,4698057329713610752),(8,14,4715408413473898496),(8,15,4732982015194824704),(8,16,4750996413704306688)]
def lookI (a b:Int):List (Int×Int×Nat)→Option Nat
 |[]=>none
 |(x,y,w)::r=>bif x == a && y == b then some w else lookI a b r
noncomputable def chkI:List (Int×Int×Nat)→Bool
 |[]=>true
 |(a,b,w)::r=>(match evFn (cxm Tryz.prog hot) 60 46 [.int .i64 a,.int .i64 b] some with|some (.float .f64 x)=>Nat.beq x w|_=>false) && chkI r
theorem chkI_look {a b:Int} {w:Nat}:∀{l:List (Int×Int×Nat)},chkI l=true→lookI a b l=some w→evFn (cxm Tryz.prog hot) 60 46 [.int .i64 a,.int .i64 b] some=some (.float .f64 w)
 |[],_,h=>by cases h
 |(x,y,v)::r,hc,h=>by
  unfold chkI at hc; simp only[Bool.and_eq_true]at hc; unfold lookI at h; cases hb:(x == a && y == b) with
  |true=>
   rw[hb]at h
   cases h
   simp only[Bool.and_eq_true,beq_iff_eq]at hb
   obtain⟨rfl,rfl⟩:=hb
   have h1:=hc.1; split at h1
   ·rename_i z hz
    rw[hz,Nat.eq_of_beq_eq_true h1]
   ·cases h1
  |false=>rw[hb]at h;exact chkI_look hc.2 h
theorem prodT_ok:chkI prodT=true:=by kernel_rfl
def prodK:KPr:=fun R a b k=>(lookI a b prodT).bind k
theorem h46p:Has Tryz.prog 46:=⟨Tryz.f46,_,Tryz.func46,by kernel_rfl,rfl⟩
theorem k46p:SumOk Tryz.prog 46 (sPr prodK):=by
 intro R args k r hr; unfold sPr at hr; split at hr
 ·rename_i a b; unfold prodK at hr
  obtain⟨w,h1,h2⟩:=bind_some' hr
  obtain⟨v,g1,g2,g3⟩:=evFn_sound (cxm_ok hot_ok) zm_ok (chkI_look prodT_ok h1) rfl
  cases g1
  exact⟨rfl,_,h2,g2,g3⟩
 ·cases hr
def sgK:KSg:=fun R kind a1 a2 s1 s2 p k=>bif kind == 1 || kind == 2 || kind == 3 || kind == 4 then checkB placeK withinK noughtK wholeK R kind a1 a2 s1 s2 p fun e=>bif e != 0 then k false else
 bif kind == 1 then k false else bif kind == 2 then sclK R s1 s2 4594902181429758083 fun _ _=>k true else bif kind == 3 then (floatToIntVal .f64 p .i64).bind fun m=>fiReal R m fun _=>k true
 else bif kind == 4 then wholeK R p fun t=>bif t then (floatToIntVal .f64 p .i64).bind fun m=>fiReal R m fun _=>k false else bif ltF p 4607182418800017408 then k true else k false else none else none
theorem z_sg1 (chk:KEI) (wh:KFB) (sc:KCFC) (R:Type) (a1 a2 s1 s2 p:Nat) (k:Value→Option R):evFn (cxv Tryz.prog [(84,sEI chk),(114,sFB wh),(15,sCFC sc),(70,sPi)]) 60 40 [el 1 a1 a2 s1 s2 p] k=chk R 1 a1 a2 s1 s2 p fun e=>bif e != 0 then k (.bool false) else k (.bool false):=by kernel_rfl
theorem z_sg2 (chk:KEI) (wh:KFB) (sc:KCFC) (R:Type) (a1 a2 s1 s2 p:Nat) (k:Value→Option R):evFn (cxv Tryz.prog [(84,sEI chk),(114,sFB wh),(15,sCFC sc),(70,sPi)]) 60 40 [el 2 a1 a2 s1 s2 p] k=chk R 2 a1 a2 s1 s2 p fun e=>bif e != 0 then k (.bool false) else sc R s1 s2 4594902181429758083 fun _ _=>k (.bool true):=by kernel_rfl
theorem z_sg3 (chk:KEI) (wh:KFB) (sc:KCFC) (R:Type) (a1 a2 s1 s2 p:Nat) (k:Value→Option R):evFn (cxv Tryz.prog [(84,sEI chk),(114,sFB wh),(15,sCFC sc),(70,sPi)]) 60 40 [el 3 a1 a2 s1 s2 p] k=chk R 3 a1 a2 s1 s2 p fun e=>bif e != 0 then k (.bool false) else (floatToIntVal .f64 p .i64).bind fun m=>fiReal R m fun _=>k (.bool true):=by kernel_rfl
theorem z_sg4 (chk:KEI) (wh:KFB) (sc:KCFC) (R:Type) (a1 a2 s1 s2 p:Nat) (k:Value→Option R):evFn (cxv Tryz.prog [(84,sEI chk),(114,sFB wh),(15,sCFC sc),(70,sPi)]) 60 40 [el 4 a1 a2 s1 s2 p] k=chk R 4 a1 a2 s1 s2 p fun e=>bif e != 0 then k (.bool false) else wh R p fun t=>bif t then (floatToIntVal .f64 p .i64).bind fun m=>fiReal R m fun _=>k (.bool false) else bif ltF p 4607182418800017408 then k (.bool true) else k (.bool false):=by kernel_rfl
theorem h40g:Has Tryz.prog 40:=⟨Tryz.f40,_,Tryz.func40,by kernel_rfl,rfl⟩
theorem sg_cx:(cxv Tryz.prog [(84,sEI (checkB placeK withinK noughtK wholeK)),(114,sFB wholeK),(15,sCFC sclK),(70,sPi)]).Ok:=cxv_ok (.cons k_check2 h_check (.cons k_whole h_whole (.cons k39 h39 (.cons k165 h165 .nil))))
theorem k40g:SumOk Tryz.prog 40 (sSg sgK):=by
 intro R args k r hr; unfold sSg at hr; split at hr
 ·rename_i kind a1 a2 s1 s2 p; have hr:sgK R kind a1 a2 s1 s2 p (fun t=>k (.bool t))=some r:=by
   rw[← hr]
   congr 1
   funext t
   cases t<;>rfl
  unfold sgK at hr; cases h1:(kind == 1) with
  |true=>
   have e:kind=1:=by simpa using h1
   subst e
   exact⟨rfl,evFn_sound sg_cx zm_ok ((z_sg1 _ wholeK sclK R a1 a2 s1 s2 p k).trans hr) rfl⟩
  |false=>
  rw[h1]at hr
  cases h2:(kind == 2) with
  |true=>
   have e:kind=2:=by simpa using h2
   subst e
   exact⟨rfl,evFn_sound sg_cx zm_ok ((z_sg2 _ wholeK sclK R a1 a2 s1 s2 p k).trans hr) rfl⟩
  |false=>
  rw[h2]at hr
  cases h3:(kind == 3) with
  |true=>
   have e:kind=3:=by simpa using h3
   subst e
   exact⟨rfl,evFn_sound sg_cx zm_ok ((z_sg3 _ wholeK sclK R a1 a2 s1 s2 p k).trans hr) rfl⟩
  |false=>
  rw[h3]at hr
  cases h4:(kind == 4) with
  |true=>
   have e:kind=4:=by simpa using h4
   subst e
   exact⟨rfl,evFn_sound sg_cx zm_ok ((z_sg4 _ wholeK sclK R a1 a2 s1 s2 p k).trans hr) rfl⟩
  |false=>
  rw[h4]at hr
  cases hr
 ·cases hr
section
variable {R:Type} (fi:Fi) (pr:KPr) (W:KW) (ov:KCC) (sub div mul:KCCC) (sc:KCFC) (s1 s2 d1 d2:Nat) (m n t:Int) (k:Nat→Nat→Option R)
def dv2 (SG:Nat):Option R:=
 ov R s1 s2 fun o1 o2=>pr R 1 n fun w=>bindF (fbF .mul SG w) fun v=>sc R o1 o2 v fun u1 u2=>fi R (IntKind.i64.wrap (n+1)) fun i=>W R d1 d2 i fun x y=>div R u1 u2 x y k
def dv3 (SG:Nat):Option R:=
 fi R (IntKind.i64.wrap (m+n)) fun q=>pr R m q fun w=>bindF (fbF .mul SG w) fun v=>sc R s1 s2 v fun u1 u2=>fi R (IntKind.i64.wrap (m+1)) fun i=>fi R (IntKind.i64.wrap (i+n)) fun i=>W R d1 d2 i fun x y=>div R u1 u2 x y k
def dv4:Option R:=
 bif decide (n<m) then fi R (IntKind.i64.wrap (m-n)) fun q=>pr R q m fun w=>sc R s1 s2 w fun u1 u2=>fi R (IntKind.i64.wrap (m-1)) fun i=>fi R (IntKind.i64.wrap (i-n)) fun i=>W R d1 d2 i fun x y=>mul R u1 u2 x y k
 else k 0 0
def dv1:Option R:=bif n == 0 then k s1 s2 else k 0 0
end
def dvB (fi:Fi) (pr:KPr) (W:KW) (ov:KCC) (sub div mul:KCCC) (sc:KCFC):KDv:=fun R kind a1 a2 s1 s2 p z1 z2 n k=>
 bif kind == 1 || kind == 2 || kind == 3 || kind == 4 then
 sub R z1 z2 a1 a2 fun d1 d2=>(floatToIntVal .f64 p .i64).bind fun m=>fi R m fun m=>fi R (n.tmod 2) fun t=>
  bif kind == 2 then (bif t == 1 then dv2 fi pr W ov div sc s1 s2 d1 d2 n k 13830554455654793216 else dv2 fi pr W ov div sc s1 s2 d1 d2 n k 4607182418800017408)
  else bif kind == 3 then (bif t == 1 then dv3 fi pr W div sc s1 s2 d1 d2 m n k 4607182418800017408 else dv3 fi pr W div sc s1 s2 d1 d2 m n k 13830554455654793216)
  else bif kind == 4 then (bif t == 1 then dv4 fi pr W mul sc s1 s2 d1 d2 m n k else dv4 fi pr W mul sc s1 s2 d1 d2 m n k)
  else (bif t == 1 then dv1 s1 s2 n k else dv1 s1 s2 n k)
 else none
theorem z_dv1 (fi:Fi) (pr:KPr) (W:KW) (ov:KCC) (sub div mul:KCCC) (sc:KCFC) (R:Type) (a1 a2 s1 s2 p z1 z2:Nat) (n:Int) (k:Value→Option R):evFn (cxf fi Tryz.prog [(35,sCCC sub),(37,sCC ov),(46,sPr pr),(15,sCFC sc),(90,sKW W),(89,sCCC div),(43,sCCC mul)] []) 60 42 [el 1 a1 a2 s1 s2 p,.complex .f64 z1 z2,.int .i64 n] k=dvB fi pr W ov sub div mul sc R 1 a1 a2 s1 s2 p z1 z2 n fun x y=>k (.complex .f64 x y):=by kernel_rfl
theorem z_dv2 (fi:Fi) (pr:KPr) (W:KW) (ov:KCC) (sub div mul:KCCC) (sc:KCFC) (R:Type) (a1 a2 s1 s2 p z1 z2:Nat) (n:Int) (k:Value→Option R):evFn (cxf fi Tryz.prog [(35,sCCC sub),(37,sCC ov),(46,sPr pr),(15,sCFC sc),(90,sKW W),(89,sCCC div),(43,sCCC mul)] []) 60 42 [el 2 a1 a2 s1 s2 p,.complex .f64 z1 z2,.int .i64 n] k=dvB fi pr W ov sub div mul sc R 2 a1 a2 s1 s2 p z1 z2 n fun x y=>k (.complex .f64 x y):=by kernel_rfl
theorem z_dv3 (fi:Fi) (pr:KPr) (W:KW) (ov:KCC) (sub div mul:KCCC) (sc:KCFC) (R:Type) (a1 a2 s1 s2 p z1 z2:Nat) (n:Int) (k:Value→Option R):evFn (cxf fi Tryz.prog [(35,sCCC sub),(37,sCC ov),(46,sPr pr),(15,sCFC sc),(90,sKW W),(89,sCCC div),(43,sCCC mul)] []) 60 42 [el 3 a1 a2 s1 s2 p,.complex .f64 z1 z2,.int .i64 n] k=dvB fi pr W ov sub div mul sc R 3 a1 a2 s1 s2 p z1 z2 n fun x y=>k (.complex .f64 x y):=by kernel_rfl
theorem z_dv4 (fi:Fi) (pr:KPr) (W:KW) (ov:KCC) (sub div mul:KCCC) (sc:KCFC) (R:Type) (a1 a2 s1 s2 p z1 z2:Nat) (n:Int) (k:Value→Option R):evFn (cxf fi Tryz.prog [(35,sCCC sub),(37,sCC ov),(46,sPr pr),(15,sCFC sc),(90,sKW W),(89,sCCC div),(43,sCCC mul)] []) 60 42 [el 4 a1 a2 s1 s2 p,.complex .f64 z1 z2,.int .i64 n] k=dvB fi pr W ov sub div mul sc R 4 a1 a2 s1 s2 p z1 z2 n fun x y=>k (.complex .f64 x y):=by kernel_rfl
def dvK:KDv:=dvB fiReal prodK wpowX reH subK divK mulK sclK
theorem h42d:Has Tryz.prog 42:=⟨Tryz.f42,_,Tryz.func42,by kernel_rfl,rfl⟩
theorem dv_cx:(cxf fiReal Tryz.prog [(35,sCCC subK),(37,sCC reH),(46,sPr prodK),(15,sCFC sclK),(90,sKW wpowX),(89,sCCC divK),(43,sCCC mulK)] []).Ok:=
 cx_ok (.cons k21 h21 (.cons k111 h111 (.cons k46p h46p (.cons k39 h39 (.cons k_powX h_pow (.cons k179 h179 (.cons k22 h22 .nil)))))))
theorem k42d:SumOk Tryz.prog 42 (sDv dvK):=by
 intro R args k r hr; unfold sDv at hr; split at hr
 ·rename_i kind a1 a2 s1 s2 p z1 z2 n; cases h1:(kind == 1) with
  |true=>
   have e:kind=1:=by simpa using h1
   subst e
   exact⟨rfl,evFn_sound dv_cx zm_ok ((z_dv1 fiReal prodK wpowX reH subK divK mulK sclK R a1 a2 s1 s2 p z1 z2 n k).trans hr) rfl⟩
  |false=>
  cases h2:(kind == 2) with
  |true=>
   have e:kind=2:=by simpa using h2
   subst e
   exact⟨rfl,evFn_sound dv_cx zm_ok ((z_dv2 fiReal prodK wpowX reH subK divK mulK sclK R a1 a2 s1 s2 p z1 z2 n k).trans hr) rfl⟩
  |false=>
  cases h3:(kind == 3) with
  |true=>
   have e:kind=3:=by simpa using h3
   subst e
   exact⟨rfl,evFn_sound dv_cx zm_ok ((z_dv3 fiReal prodK wpowX reH subK divK mulK sclK R a1 a2 s1 s2 p z1 z2 n k).trans hr) rfl⟩
  |false=>
  cases h4:(kind == 4) with
  |true=>
   have e:kind=4:=by simpa using h4
   subst e
   exact⟨rfl,evFn_sound dv_cx zm_ok ((z_dv4 fiReal prodK wpowX reH subK divK mulK sclK R a1 a2 s1 s2 p z1 z2 n k).trans hr) rfl⟩
  |false=>
  unfold dvK dvB at hr
  rw[h1,h2,h3,h4]at hr
  cases hr
 ·cases hr
end Go.Vm
