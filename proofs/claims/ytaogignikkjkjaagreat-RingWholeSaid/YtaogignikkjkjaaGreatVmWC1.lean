/- A part of the evaluator and of what is told of floats; no conditions. -/
import Derived.Test.YtaogignikkjkjaaGreatVmWB6
import Derived.Test.YtaogignikkjkjaaGreatVmRW0
import Derived.Test.YtaogignikkjkjaaGreatVmZX
set_option linter.unusedSectionVars false
set_option linter.unusedSimpArgs false
set_option linter.unusedVariables false
set_option maxRecDepth 1000000
namespace Go.Vm
open Go.Proofs Ieee
theorem h9w:Has Tryz.prog 9:=⟨Tryz.f9,_,Tryz.func9,by kernel_rfl,rfl⟩
theorem k9w:SumOk Tryz.prog 9 (sWe (weB subK lengthK)):=sumOk_of zm_ok (.cons k21 h21 (.cons k38 h38 .nil)) (n:=60) fun R args k r hr=>by
 unfold sWe at hr;split at hr
 ·exact⟨rfl,(z_we subK lengthK R _ _ _ _ _ _ _ _ _ k).trans hr⟩
 ·cases hr
noncomputable def rwR (lim:Nat→Bool) (gl:List (Nat×HSum)) (ml:List (Nat×MSum)):Cx:=rwC lim fiReal rEl rSt (rAp Tryz.prog) smB of2 (weB subK lengthK) sclK timesK nearK gl ml
theorem rwR_ok (lim:Nat→Bool) {gl:List (Nat×HSum)} (hg:GsOk Tryz.prog gl) {ml:List (Nat×MSum)} (hm:MsOk Tryz.prog ml):(rwR lim gl ml).Ok:=
 cxM_ok no_meth (.cons k33 h33 (.cons k32 h32 (.cons k9w h9w (.cons k39 h39 (.cons k40 h40 (.cons k28 h28r .nil)))))) no_ext hg hm (mmOf_ok lds1)
theorem h12w:Has Tryz.prog 12:=⟨Tryz.f12,_,Tryz.func12,by kernel_rfl,rfl⟩
theorem h13w:Has Tryz.prog 13:=⟨Tryz.f13,_,Tryz.func13,by kernel_rfl,rfl⟩
theorem h14w:Has Tryz.prog 14:=⟨Tryz.f14,_,Tryz.func14,by kernel_rfl,rfl⟩
theorem rw_body:Tryz.f3.body=some (codeOf 3):=by kernel_rfl
theorem rwA_loops:loopsIn rwA=[]:=by kernel_rfl
def rwSize (m:Nat) (x y r n:Int):Bool:=!decide ((m:Int) > 6) && (smI x y && (!decide (r<1) && (!decide (r > 1000) && (!decide (n<128) && !decide (n > 512)))))
theorem rwSize_iff {m:Nat} {x y r n:Int} (h:rwSize m x y r n=true):m≤6∧smI x y=true∧1≤r∧r≤1000∧128≤n∧n≤512:=by
 unfold rwSize at h; simp only[Bool.and_eq_true,Bool.not_eq_true',decide_eq_false_iff_not]at h
 obtain⟨a,b,c,d,e,f⟩:=h
 exact⟨by omega,b,by omega,by omega,by omega,by omega⟩
theorem rwPre_eq {R:Type} (m:Nat) (x y r n:Int) (bad go:Option R):rwPre smB m x y r n bad go=bif rwSize m x y r n then go else bad:=by
 unfold rwPre rwSize
 rw[smB_eq]
 cases decide ((m:Int) > 6)<;>cases smI x y<;>cases decide (r<1)<;>cases decide (r > 1000)<;>cases decide (n<128)<;>cases decide (n > 512)<;>rfl
theorem rw_bigE (L:Hand) (fi:Fi) (R:Type) (ge:GEl) (st:St) (ap:Ap) (sm:KG2B) (of:KG2C) (we:KWe) (sc:KCFC) (ti:KCC) (ne:KCCFB) (ga g0:HT) (m c:Nat) (x y r n:Int) (K:Ex→Env→Objs→Option R):
  evTop (rwC la0 fi ge st ap sm of we sc ti ne [(5,saysV (.bool true) ga)] [(7,saysM (ofV nilS false) g0)]) 60 L 1 157 (codeOf 3) (enumE 0 (rwArgs (.slice (some ⟨0,0,none⟩) m c) x y r n)) ⟨1,[]⟩ (takeC [8] [] K) =
  ga R [] ⟨2,[(1,.cells [.int .i16 x,.int .i16 y] 0)]⟩ (rwPre sm m x y r n (K .ret [(8,.bool true)] []) (g0 R [(.slice (some ⟨0,0,none⟩) m c)] ⟨2,[(1,.cells [.int .i16 x,.int .i16 y] 0)]⟩ <| of R x y fun c1 c2=>forceN (floatOfInt .f64 r) fun rr=>K .ret [(8,.bool true)] [])):=by kernel_rfl
theorem whole_big {m c:Nat} {x y r n:Int} (h:rwSize m x y r n=false):FlatCall Tryz.prog 3 (rwArgs (.slice (some ⟨0,0,none⟩) m c) x y r n) ⟨1,[]⟩ (.bool true):=by
 have e:=rw_bigE noL fiReal (Ex×Env×Objs) rEl rSt (rAp Tryz.prog) smB of2 (weB subK lengthK) sclK timesK nearK (saysR Tryz.prog 5 (.bool true)) (saysR Tryz.prog 7 (ofV nilS false)) m c x y r n fun ex e O=>some (ex,e,O)
 rw[says_eq (awake_call _),rwPre_eq,h,cond_false]at e
 exact fun_flat (C:=rwR la0 [(5,saysV (.bool true) (saysR Tryz.prog 5 (.bool true)))] [(7,saysM (ofV nilS false) (saysR Tryz.prog 7 (ofV nilS false)))]) (args:=rwArgs (.slice (some ⟨0,0,none⟩) m c) x y r n) (H:=⟨1,[]⟩) (rwR_ok _ (.cons (says_ok rfl) h30 .nil) (.cons (saysM_ok rfl) h31 .nil)) zm_ok Tryz.func3 rw_body (fun a _=>noL_ok) (Nat.le_of_ble_eq_true rfl) e (.inr rfl) (vs:=[.bool true]) rfl rfl
section
variable {cs:List Value} {sz c:Nat} {hs:List Th} {x y r n:Int}
theorem whole_bad (hx:ThAt cs 0 hs) (hn:hs.length<900000) (hcs:inns 0 cs=true) (hb:∃ h∈hs,h.small=false):FlatCall Tryz.prog 3 (rwArgs (.slice (some ⟨0,0,none⟩) hs.length c) x y r n) ⟨1,[(0,.cells cs sz)]⟩ (.bool true):=by
 have h31n:FlatCall Tryz.prog 7 [.slice (some ⟨0,0,none⟩) hs.length c] ⟨2,[(1,.cells [.int .i16 x,.int .i16 y] 0),(0,.cells cs sz)]⟩ (ofV nilS false):=FlatCall.one (b:=0) (of_call_bad (sz:=sz) (c:=c) hx hn hb) hcs (by simp) rfl; have e:=rw_bad noL fiReal (Ex×Env×Objs) rEl rSt (rAp Tryz.prog) smB of2 (weB subK lengthK) sclK timesK nearK (saysR Tryz.prog 5 (.bool true)) (saysR Tryz.prog 7 (ofV nilS false)) cs sz hs.length c x y r n fun ex e O=>some (ex,e,O)
 rw[says_eq (awake_call _),rwPre_eq,says_eq h31n,of2_eq,forceN_eq,Bool.cond_self]at e
 exact fun_flat (C:=rwR la0 [(5,saysV (.bool true) (saysR Tryz.prog 5 (.bool true)))] [(7,saysM (ofV nilS false) (saysR Tryz.prog 7 (ofV nilS false)))]) (args:=rwArgs (.slice (some ⟨0,0,none⟩) hs.length c) x y r n) (H:=⟨1,[(0,.cells cs sz)]⟩) (rwR_ok _ (.cons (says_ok rfl) h30 .nil) (.cons (saysM_ok rfl) h31 .nil)) zm_ok Tryz.func3 rw_body (fun a _=>noL_ok) (Nat.le_of_ble_eq_true rfl) e (.inr rfl) (vs:=[.bool true]) rfl rfl
theorem whole_badc (hI:MemCall Tryz.prog 7 [.slice (some ⟨0,0,none⟩) hs.length c] ⟨2,[(1,.cells [.int .i16 x,.int .i16 y] 0),(0,.cells cs sz)]⟩ (ofV (sl3 2 hs.length) false) (AH.push ⟨2,[(1,.cells [.int .i16 x,.int .i16 y] 0),(0,.cells cs sz)]⟩ (.cells (cellsOf (els hs)) 4))):
  FlatCall Tryz.prog 3 (rwArgs (.slice (some ⟨0,0,none⟩) hs.length c) x y r n) ⟨1,[(0,.cells cs sz)]⟩ (.bool true):=by
 have e:=rw_badc noL fiReal (Ex×Env×Objs) rEl rSt (rAp Tryz.prog) smB of2 (weB subK lengthK) sclK timesK nearK (saysR Tryz.prog 5 (.bool true)) (leavesR Tryz.prog 7 4 (fun b=>ofV (sl3 b hs.length) false) (cellsOf (els hs))) cs sz hs.length c x y r n fun ex e O=>some (ex,e,O)
 rw[says_eq (awake_call _),rwPre_eq,leaves_eq hI,of2_eq,forceN_eq,Bool.cond_self]at e
 exact fun_flat (C:=rwR limW [(5,saysV (.bool true) (saysR Tryz.prog 5 (.bool true)))] [(7,leavesV 4 (fun b=>ofV (sl3 b hs.length) false) (leavesR Tryz.prog 7 4 (fun b=>ofV (sl3 b hs.length) false) (cellsOf (els hs))))]) (args:=rwArgs (.slice (some ⟨0,0,none⟩) hs.length c) x y r n) (H:=⟨1,[(0,.cells cs sz)]⟩) (rwR_ok _ (.cons (says_ok rfl) h30 .nil) (.cons leaves_ok h31 .nil)) zm_ok Tryz.func3 rw_body (fun a _=>noL_ok) (Nat.le_of_ble_eq_true rfl) e (.inr rfl) (vs:=[.bool true]) rfl rfl
end
def WellOk (c1 c2 r:Nat) (wv:El→Bool) (X:El):Prop:=∀(R:Type) (k:Bool→Option R),weB subK lengthK R X.kind X.a1 X.a2 X.s1 X.s2 X.p c1 c2 r k=k (wv X)
section
variable {cs es:List Value} {sz m c1 c2 rr:Nat} {xs:List El} {n:Int} {wv:El→Bool}
theorem rw_step (hes:inns 0 es=true) (hx:ElsAt es 0 xs) (hn:xs.length<900000) {k:Nat} {X:El} (hk:xs[k]?=some X) (hw:WellOk c1 c2 rr wv X) (hv:wv X=true):
  BaseOk Tryz.prog 1 157 ⟨5,rwD es xs.length c1 c2 rr++[(0,.cells cs sz)]⟩ (rwE n k) ⟨5,rwD es xs.length c1 c2 rr++[(0,.cells cs sz)]⟩ .normal (rwE n (k+1:Nat)) ⟨5,rwD es xs.length c1 c2 rr++[(0,.cells cs sz)]⟩ (fun Q a w=>rwA.wp Tryz.prog Q a w):=by
 have hkn:=(List.getElem?_eq_some_iff.1 hk).1; exact round_told (C:=rwR limW [] []) (H0:=⟨5,rwD es xs.length c1 c2 rr++[(0,.cells cs sz)]⟩) (e:=rwE n k) (H:=⟨5,rwD es xs.length c1 c2 rr++[(0,.cells cs sz)]⟩) (n:=60) (ts:=[13,10,12,3,8]) (bo:=[4,3,2]) (bs:=[])
    (A:=rwD es xs.length c1 c2 rr) (B:=[(0,.cells cs sz)]) (D:=rwD es xs.length c1 c2 rr) (e1:=rwE n (k+1:Nat)) (O1:=rwD es xs.length c1 c2 rr) (rwR_ok _ .nil .nil) zm_ok rwA_loops
    (by
      unfold rwR
      refine(rw_round ..).trans ?_
      rw[decide_eq_true (show (k:Int)<xs.length by omega),cond_true,idx_ok,cond_true,rEl_at hx hk,hw,hv,Bool.not_true,cond_false,fiReal_fair,wrap_up (by omega)]) rfl
    (by
      simp only[rwD,renOs,renO,renL,renV]
      rw[rens_flat hes]
      rfl) rfl rfl rfl rfl rfl
theorem rw_stop (hes:inns 0 es=true) (hx:ElsAt es 0 xs) {k:Nat} {X:El} (hk:xs[k]?=some X) (hw:WellOk c1 c2 rr wv X) (hv:wv X=false):
  BaseOk Tryz.prog 1 157 ⟨5,rwD es xs.length c1 c2 rr++[(0,.cells cs sz)]⟩ (rwE n k) ⟨5,rwD es xs.length c1 c2 rr++[(0,.cells cs sz)]⟩ .ret (rwE n k++[(8,.bool true)]) ⟨5,rwD es xs.length c1 c2 rr++[(0,.cells cs sz)]⟩ (fun Q a w=>rwA.wp Tryz.prog Q a w):=by
 have hkn:=(List.getElem?_eq_some_iff.1 hk).1; exact round_told (C:=rwR limW [] []) (H0:=⟨5,rwD es xs.length c1 c2 rr++[(0,.cells cs sz)]⟩) (e:=rwE n k) (H:=⟨5,rwD es xs.length c1 c2 rr++[(0,.cells cs sz)]⟩) (n:=60) (ts:=[13,10,12,3,8]) (bo:=[4,3,2]) (bs:=[])
    (A:=rwD es xs.length c1 c2 rr) (B:=[(0,.cells cs sz)]) (D:=rwD es xs.length c1 c2 rr) (e1:=rwE n k++[(8,.bool true)]) (O1:=rwD es xs.length c1 c2 rr) (rwR_ok _ .nil .nil) zm_ok rwA_loops
    (by
      unfold rwR
      refine(rw_round ..).trans ?_
      rw[decide_eq_true (show (k:Int)<xs.length by omega),cond_true,idx_ok,cond_true,rEl_at hx hk,hw,hv,Bool.not_false,cond_true]) rfl
    (by
      simp only[rwD,renOs,renO,renL,renV]
      rw[rens_flat hes]
      rfl) rfl rfl rfl rfl rfl
theorem rw_last (hes:inns 0 es=true):
  BaseOk Tryz.prog 1 157 ⟨5,rwD es m c1 c2 rr++[(0,.cells cs sz)]⟩ (rwE n m) ⟨5,rwD es m c1 c2 rr++[(0,.cells cs sz)]⟩ (.exit 0) (rwE n m) ⟨5,rwD es m c1 c2 rr++[(0,.cells cs sz)]⟩ (fun Q a w=>rwA.wp Tryz.prog Q a w):=by
 exact round_told (C:=rwR limW [] []) (H0:=⟨5,rwD es m c1 c2 rr++[(0,.cells cs sz)]⟩) (e:=rwE n m) (H:=⟨5,rwD es m c1 c2 rr++[(0,.cells cs sz)]⟩) (n:=60) (ts:=[13,10,12,3,8]) (bo:=[4,3,2]) (bs:=[])
    (A:=rwD es m c1 c2 rr) (B:=[(0,.cells cs sz)]) (D:=rwD es m c1 c2 rr) (e1:=rwE n m) (O1:=rwD es m c1 c2 rr) (rwR_ok _ .nil .nil) zm_ok rwA_loops
    (by
      unfold rwR
      refine(rw_round ..).trans ?_
      rw[decide_eq_false (by omega)];rfl) rfl
    (by
      simp only[rwD,renOs,renO,renL,renV]
      rw[rens_flat hes]
      rfl) rfl rfl rfl rfl rfl
theorem rw_goes (hes:inns 0 es=true) (hx:ElsAt es 0 xs) (hn:xs.length<900000) (hw:∀ X∈xs,WellOk c1 c2 rr wv X) (hv:∀ X∈xs,wv X=true):
  CodeOk Tryz.prog 1 157 (rwE n (0:Nat)) ⟨5,rwD es xs.length c1 c2 rr++[(0,.cells cs sz)]⟩ (.exit 0) (rwE n xs.length) ⟨5,rwD es xs.length c1 c2 rr++[(0,.cells cs sz)]⟩ (fun Q act w=>Code.wp Tryz.prog (.loop rwA) Q act w):=by
 have hB:BaseRounds Tryz.prog 1 157 ⟨5,rwD es xs.length c1 c2 rr++[(0,.cells cs sz)]⟩ rwA (rwE n (0:Nat)) ⟨5,rwD es xs.length c1 c2 rr++[(0,.cells cs sz)]⟩ (.exit 0) (rwE n xs.length) ⟨5,rwD es xs.length c1 c2 rr++[(0,.cells cs sz)]⟩:=
  base_count (P:=Tryz.prog) (lo:=1) (sz:=157) (a:=rwA) (H0:=⟨5,rwD es xs.length c1 c2 rr++[(0,.cells cs sz)]⟩) (E:=fun k:Nat=>rwE n k) (H:=fun _=>⟨5,rwD es xs.length c1 c2 rr++[(0,.cells cs sz)]⟩) (ex:=.exit 0)
   (e':=rwE n xs.length) (H':=⟨5,rwD es xs.length c1 c2 rr++[(0,.cells cs sz)]⟩) xs.length 0 (fun k _ hk=>by
    have hk':=List.getElem?_eq_getElem (show k<xs.length by omega); exact rw_step hes hx hn hk' (hw _ (List.getElem_mem _)) (hv _ (List.getElem_mem _))) (base_end (by intro h;cases h) (by simp only[Nat.zero_add];exact rw_last hes))
 exact @base_loop _ _ _ _ _ _ _ _ _ hB
theorem rw_stops (hes:inns 0 es=true) (hx:ElsAt es 0 xs) (hn:xs.length<900000) (hw:∀ X∈xs,WellOk c1 c2 rr wv X) (hv:∃ X∈xs,wv X=false):
  ∃ k:Nat,CodeOk Tryz.prog 1 157 (rwE n (0:Nat)) ⟨5,rwD es xs.length c1 c2 rr++[(0,.cells cs sz)]⟩ .ret (rwE n k++[(8,.bool true)]) ⟨5,rwD es xs.length c1 c2 rr++[(0,.cells cs sz)]⟩ (fun Q act w=>Code.wp Tryz.prog (.loop rwA) Q act w):=by
 have hex:∃ k:Nat,k<xs.length∧(∃ X,xs[k]?=some X∧wv X=false)∧∀ j:Nat,j<k→∀ X,xs[j]?=some X→wv X=true:=by
  obtain⟨X,hX,hf⟩:=hv
  obtain⟨i,hi,e⟩:=List.mem_iff_getElem.1 hX
  have hfind:∀ q:Nat,(∃ k:Nat,k≤q∧∃ X,xs[k]?=some X∧wv X=false)→∃ k:Nat,(∃ X,xs[k]?=some X∧wv X=false)∧∀ j:Nat,j<k→∀ X,xs[j]?=some X→wv X=true:=by
   intro q; induction q with
   |zero=>
    rintro ⟨k,hk,h⟩
    have:k=0:=by omega
    subst this
    exact⟨0,h,fun j hj=>by omega⟩
   |succ q ih=>
    rintro ⟨k,hk,h⟩
    by_cases hb:∃ k:Nat,k≤q∧∃ X,xs[k]?=some X∧wv X=false
    ·exact ih hb
    ·refine⟨k,h,fun j hj X hX=>?_⟩
     cases hw:wv X with
     |true=>rfl
     |false=>exact absurd ⟨j,by omega,X,hX,hw⟩ hb
  obtain⟨k,h1,h2⟩:=hfind i ⟨i,Nat.le_refl _,X,by rw[List.getElem?_eq_getElem hi,e],hf⟩
  have h1':=h1
  obtain⟨Y,hY,_⟩:=h1'
  exact⟨k,(List.getElem?_eq_some_iff.1 hY).1,h1,h2⟩
 obtain⟨k,hk,⟨X,hX,hf⟩,hall⟩:=hex
 refine⟨k,?_⟩
 have hB:BaseRounds Tryz.prog 1 157 ⟨5,rwD es xs.length c1 c2 rr++[(0,.cells cs sz)]⟩ rwA (rwE n (0:Nat)) ⟨5,rwD es xs.length c1 c2 rr++[(0,.cells cs sz)]⟩ .ret (rwE n k++[(8,.bool true)]) ⟨5,rwD es xs.length c1 c2 rr++[(0,.cells cs sz)]⟩:=
  base_count (P:=Tryz.prog) (lo:=1) (sz:=157) (a:=rwA) (H0:=⟨5,rwD es xs.length c1 c2 rr++[(0,.cells cs sz)]⟩) (E:=fun k:Nat=>rwE n k) (H:=fun _=>⟨5,rwD es xs.length c1 c2 rr++[(0,.cells cs sz)]⟩) (ex:=.ret)
   (e':=rwE n k++[(8,.bool true)]) (H':=⟨5,rwD es xs.length c1 c2 rr++[(0,.cells cs sz)]⟩) k 0 (fun j _ hj=>by
    have hj':=List.getElem?_eq_getElem (show j<xs.length by omega); exact rw_step hes hx hn hj' (hw _ (List.getElem_mem _)) (hall j (by omega) _ hj')) (base_end (by intro h;cases h) (by
     simp only[Nat.zero_add]
     exact rw_stop hes hx hX (hw _ (List.mem_of_getElem? hX)) hf))
 exact @base_loop _ _ _ _ _ _ _ _ _ hB
end
def RwMain (xs:List El) (c1 c2 rr:Nat) (n:Int):Prop:=∃ z1 z2 y1 y2 a1 a2 b1 b2 t u:Nat,
 FlatCall Tryz.prog 10 [flowV 0 xs.length xs.length,ciV c1 c2 rr] ⟨1,[(0,.cells (cellsOf xs) 4)]⟩ (reV z1 z2 0)∧
 FlatCall Tryz.prog 11 [flowV 0 xs.length xs.length,ciV c1 c2 rr] ⟨1,[(0,.cells (cellsOf xs) 4)]⟩ (reV y1 y2 0)∧
 FlatCall Tryz.prog 12 [flowV 0 xs.length xs.length,ciV c1 c2 rr,.int .i64 n] ⟨1,[(0,.cells (cellsOf xs) 4)]⟩ (reV a1 a2 0)∧
 FlatCall Tryz.prog 13 [flowV 0 xs.length xs.length,ciV c1 c2 rr,.int .i64 n] ⟨1,[(0,.cells (cellsOf xs) 4)]⟩ (reV b1 b2 0)∧
 FlatCall Tryz.prog 14 [flowV 0 xs.length xs.length,ciV c1 c2 rr,.int .i64 n] ⟨1,[(0,.cells (cellsOf xs) 4)]⟩ (meV t u)∧
 ∀(R:Type) (yes no:Option R),rwFin sclK timesK nearK z1 z2 y1 y2 a1 a2 b1 b2 t u yes no=yes
def RwNil (c1 c2 rr:Nat) (n:Int):Prop:=∃ z1 z2 y1 y2 a1 a2 b1 b2 t u:Nat,
 (∀ H,FlatCall Tryz.prog 10 [.agg ⟨[nilS]⟩,ciV c1 c2 rr] H (reV z1 z2 0))∧
 (∀ H,FlatCall Tryz.prog 11 [.agg ⟨[nilS]⟩,ciV c1 c2 rr] H (reV y1 y2 0))∧
 (∀ H,FlatCall Tryz.prog 12 [.agg ⟨[nilS]⟩,ciV c1 c2 rr,.int .i64 n] H (reV a1 a2 0))∧
 (∀ H,FlatCall Tryz.prog 13 [.agg ⟨[nilS]⟩,ciV c1 c2 rr,.int .i64 n] H (reV b1 b2 0))∧
 (∀ H,FlatCall Tryz.prog 14 [.agg ⟨[nilS]⟩,ciV c1 c2 rr,.int .i64 n] H (meV t u))∧
 ∀(R:Type) (yes no:Option R),rwFin sclK timesK nearK z1 z2 y1 y2 a1 a2 b1 b2 t u yes no=yes
section
variable {cs:List Value} {sz c:Nat} {hs:List Th} {x y r n:Int} {c1 c2 rr:Nat} {wv:El→Bool}
theorem cells_one {f:FuncId} {argsc args:List Value} {xs:List El} {H:AH} {v:Value} (h:FlatCall Tryz.prog f argsc ⟨1,[(0,.cells (cellsOf xs) 4)]⟩ v) (hm:(2,.cells (cellsOf xs) 4)∈H.objs) (ha:renL (only 2) argsc=some args):FlatCall Tryz.prog f args H v:=
 FlatCall.one (b:=2) h (row_cells xs).2.1 hm ha
theorem whole_not (hI:MemCall Tryz.prog 7 [.slice (some ⟨0,0,none⟩) (els hs).length c] ⟨2,[(1,.cells [.int .i16 x,.int .i16 y] 0),(0,.cells cs sz)]⟩ (ofV (sl3 2 (els hs).length) true) (AH.push ⟨2,[(1,.cells [.int .i16 x,.int .i16 y] 0),(0,.cells cs sz)]⟩ (.cells (cellsOf (els hs)) 4)))
  (hn:(els hs).length<900000) (hw:∀ X∈els hs,WellOk (fI x) (fI y) (fI r) wv X) (hv:∃ X∈els hs,wv X=false):FlatCall Tryz.prog 3 (rwArgs (.slice (some ⟨0,0,none⟩) (els hs).length c) x y r n) ⟨1,[(0,.cells cs sz)]⟩ (.bool true):=by
 obtain⟨k,hB⟩:=@rw_stops cs (cellsOf (els hs)) sz (fI x) (fI y) (fI r) (els hs) n wv (row_cells _).2.1 (elsAt_cells _) hn hw hv
 have e:=rw_tope (told Tryz.prog .ret (rwE n k++[(8,.bool true)]) ⟨5,rwD (cellsOf (els hs)) (els hs).length (fI x) (fI y) (fI r)++[(0,.cells cs sz)]⟩) fiReal (Ex×Env×Objs) rEl rSt (rAp Tryz.prog) smB of2 (weB subK lengthK) sclK timesK nearK
  (saysR Tryz.prog 5 (.bool true)) (saysR Tryz.prog 10 (reV 0 0 210)) (saysR Tryz.prog 11 (reV 0 0 210)) (leavesR Tryz.prog 7 4 (fun b=>ofV (sl3 b (els hs).length) true) (cellsOf (els hs))) cs sz (els hs).length c x y r n fun ex e O=>some (ex,e,O)
 rw[says_eq (awake_call _),rwPre_eq,leaves_eq hI,of2_eq,forceN_eq]at e
 have h37':GsOk Tryz.prog [(5,saysV (.bool true) (saysR Tryz.prog 5 (.bool true))),(10,saysV (reV 0 0 210) (saysR Tryz.prog 10 (reV 0 0 210))),(11,saysV (reV 0 0 210) (saysR Tryz.prog 11 (reV 0 0 210)))]:=.cons (says_ok rfl) h30 (.cons (says_ok rfl) h37 (.cons (says_ok rfl) h11s .nil)); cases hsz:rwSize (els hs).length x y r n with
 |false=>
  rw[hsz,cond_false]at e
  exact fun_flat (C:=rwR limW _ [(7,leavesV 4 (fun b=>ofV (sl3 b (els hs).length) true) (leavesR Tryz.prog 7 4 (fun b=>ofV (sl3 b (els hs).length) true) (cellsOf (els hs))))]) (args:=rwArgs (.slice (some ⟨0,0,none⟩) (els hs).length c) x y r n) (H:=⟨1,[(0,.cells cs sz)]⟩) (rwR_ok _ h37' (.cons leaves_ok h31 .nil)) zm_ok Tryz.func3 rw_body (fun a _=>slimL_ok (told_ok _ _ _ _ a)) (Nat.le_of_ble_eq_true rfl) e (.inr rfl) (vs:=[.bool true]) rfl rfl
 |true=>
  rw[hsz,cond_true]at e
  have e:=e.trans (told_eq @hB _ _); exact fun_flat (C:=rwR limW _ [(7,leavesV 4 (fun b=>ofV (sl3 b (els hs).length) true) (leavesR Tryz.prog 7 4 (fun b=>ofV (sl3 b (els hs).length) true) (cellsOf (els hs))))]) (args:=rwArgs (.slice (some ⟨0,0,none⟩) (els hs).length c) x y r n) (H:=⟨1,[(0,.cells cs sz)]⟩) (rwR_ok _ h37' (.cons leaves_ok h31 .nil)) zm_ok Tryz.func3 rw_body (fun a _=>slimL_ok (told_ok _ _ _ _ a)) (Nat.le_of_ble_eq_true rfl) e (.inr rfl) (vs:=[.bool true]) rfl rfl
theorem whole_err (hI:MemCall Tryz.prog 7 [.slice (some ⟨0,0,none⟩) (els hs).length c] ⟨2,[(1,.cells [.int .i16 x,.int .i16 y] 0),(0,.cells cs sz)]⟩ (ofV (sl3 2 (els hs).length) true) (AH.push ⟨2,[(1,.cells [.int .i16 x,.int .i16 y] 0),(0,.cells cs sz)]⟩ (.cells (cellsOf (els hs)) 4)))
  (hn:(els hs).length<900000) (hw:∀ X∈els hs,WellOk (fI x) (fI y) (fI r) wv X) (hv:∀ X∈els hs,wv X=true)
  (h10:FlatCall Tryz.prog 10 [flowV 0 (els hs).length (els hs).length,ciV (fI x) (fI y) (fI r)] ⟨1,[(0,.cells (cellsOf (els hs)) 4)]⟩ (reV 0 0 210))
  (h11:FlatCall Tryz.prog 11 [flowV 0 (els hs).length (els hs).length,ciV (fI x) (fI y) (fI r)] ⟨1,[(0,.cells (cellsOf (els hs)) 4)]⟩ (reV 0 0 210)) (hsz:rwSize (els hs).length x y r n=true):
  FlatCall Tryz.prog 3 (rwArgs (.slice (some ⟨0,0,none⟩) (els hs).length c) x y r n) ⟨1,[(0,.cells cs sz)]⟩ (.bool true):=by
 have hB:=@rw_goes cs (cellsOf (els hs)) sz (fI x) (fI y) (fI r) (els hs) n wv (row_cells _).2.1 (elsAt_cells _) hn hw hv; have e:=rw_tope (told Tryz.prog (.exit 0) (rwE n (els hs).length) ⟨5,rwD (cellsOf (els hs)) (els hs).length (fI x) (fI y) (fI r)++[(0,.cells cs sz)]⟩) fiReal (Ex×Env×Objs) rEl rSt (rAp Tryz.prog) smB of2 (weB subK lengthK) sclK timesK nearK
  (saysR Tryz.prog 5 (.bool true)) (saysR Tryz.prog 10 (reV 0 0 210)) (saysR Tryz.prog 11 (reV 0 0 210)) (leavesR Tryz.prog 7 4 (fun b=>ofV (sl3 b (els hs).length) true) (cellsOf (els hs))) cs sz (els hs).length c x y r n fun ex e O=>some (ex,e,O)
 rw[says_eq (awake_call _),rwPre_eq,leaves_eq hI,of2_eq,forceN_eq,hsz,cond_true]at e
 have e:=e.trans (told_eq @hB _ _)
 rw[leave_then]at e
 have e:=e.trans (rw_mide ..); have g10:FlatCall Tryz.prog 10 [.agg ⟨[sl3 2 (els hs).length]⟩,ciV (fI x) (fI y) (fI r)] ⟨5,rwD (cellsOf (els hs)) (els hs).length (fI x) (fI y) (fI r)++[(0,.cells cs sz)]⟩ (reV 0 0 210):=cells_one h10 (by unfold rwD;simp) rfl; have g11:FlatCall Tryz.prog 11 [.agg ⟨[sl3 2 (els hs).length]⟩,ciV (fI x) (fI y) (fI r)] ⟨5,rwD (cellsOf (els hs)) (els hs).length (fI x) (fI y) (fI r)++[(0,.cells cs sz)]⟩ (reV 0 0 210):=cells_one h11 (by unfold rwD;simp) rfl
 rw[says_eq g10,says_eq g11]at e
 exact fun_flat (C:=rwR limW _ [(7,leavesV 4 (fun b=>ofV (sl3 b (els hs).length) true) (leavesR Tryz.prog 7 4 (fun b=>ofV (sl3 b (els hs).length) true) (cellsOf (els hs))))]) (args:=rwArgs (.slice (some ⟨0,0,none⟩) (els hs).length c) x y r n) (H:=⟨1,[(0,.cells cs sz)]⟩) (rwR_ok _ (.cons (says_ok rfl) h30 (.cons (says_ok rfl) h37 (.cons (says_ok rfl) h11s .nil))) (.cons leaves_ok h31 .nil)) zm_ok Tryz.func3 rw_body (fun a _=>slimL_ok (told_ok _ _ _ _ a)) (Nat.le_of_ble_eq_true rfl) e (.inr rfl) (vs:=[.bool true]) rfl rfl
theorem whole_good (hI:MemCall Tryz.prog 7 [.slice (some ⟨0,0,none⟩) (els hs).length c] ⟨2,[(1,.cells [.int .i16 x,.int .i16 y] 0),(0,.cells cs sz)]⟩ (ofV (sl3 2 (els hs).length) true) (AH.push ⟨2,[(1,.cells [.int .i16 x,.int .i16 y] 0),(0,.cells cs sz)]⟩ (.cells (cellsOf (els hs)) 4)))
  (hn:(els hs).length<900000) (hw:∀ X∈els hs,WellOk (fI x) (fI y) (fI r) wv X) (hv:∀ X∈els hs,wv X=true) (hM:RwMain (els hs) (fI x) (fI y) (fI r) n) (hsz:rwSize (els hs).length x y r n=true):
  FlatCall Tryz.prog 3 (rwArgs (.slice (some ⟨0,0,none⟩) (els hs).length c) x y r n) ⟨1,[(0,.cells cs sz)]⟩ (.bool true):=by
 obtain⟨z1,z2,y1,y2,a1,a2,b1,b2,t,u,h10,h11,h12,h13,h14,hfin⟩:=hM
 have hB:=@rw_goes cs (cellsOf (els hs)) sz (fI x) (fI y) (fI r) (els hs) n wv (row_cells _).2.1 (elsAt_cells _) hn hw hv; have e:=rw_top (told Tryz.prog (.exit 0) (rwE n (els hs).length) ⟨5,rwD (cellsOf (els hs)) (els hs).length (fI x) (fI y) (fI r)++[(0,.cells cs sz)]⟩) fiReal (Ex×Env×Objs) rEl rSt (rAp Tryz.prog) smB of2 (weB subK lengthK) sclK timesK nearK
  (saysR Tryz.prog 5 (.bool true)) (saysR Tryz.prog 10 (reV z1 z2 0)) (saysR Tryz.prog 11 (reV y1 y2 0)) (saysR Tryz.prog 12 (reV a1 a2 0)) (saysR Tryz.prog 13 (reV b1 b2 0)) (saysR Tryz.prog 14 (meV t u)) (leavesR Tryz.prog 7 4 (fun b=>ofV (sl3 b (els hs).length) true) (cellsOf (els hs))) cs sz (els hs).length c z1 z2 y1 y2 a1 a2 b1 b2 t u x y r n fun ex e O=>some (ex,e,O)
 rw[says_eq (awake_call _),rwPre_eq,leaves_eq hI,of2_eq,forceN_eq,hsz,cond_true]at e
 have e:=e.trans (told_eq @hB _ _)
 rw[leave_then]at e
 have e:=e.trans (rw_mid ..); have g10:FlatCall Tryz.prog 10 [.agg ⟨[sl3 2 (els hs).length]⟩,ciV (fI x) (fI y) (fI r)] ⟨5,rwD (cellsOf (els hs)) (els hs).length (fI x) (fI y) (fI r)++[(0,.cells cs sz)]⟩ (reV z1 z2 0):=cells_one h10 (by unfold rwD;simp) rfl; have g11:FlatCall Tryz.prog 11 [.agg ⟨[sl3 2 (els hs).length]⟩,ciV (fI x) (fI y) (fI r)] ⟨5,rwD (cellsOf (els hs)) (els hs).length (fI x) (fI y) (fI r)++[(0,.cells cs sz)]⟩ (reV y1 y2 0):=cells_one h11 (by unfold rwD;simp) rfl; have g12:FlatCall Tryz.prog 12 [.agg ⟨[sl3 2 (els hs).length]⟩,ciV (fI x) (fI y) (fI r),.int .i64 n] ⟨5,rwD (cellsOf (els hs)) (els hs).length (fI x) (fI y) (fI r)++[(0,.cells cs sz)]⟩ (reV a1 a2 0):=cells_one h12 (by unfold rwD;simp) rfl; have g13:FlatCall Tryz.prog 13 [.agg ⟨[sl3 2 (els hs).length]⟩,ciV (fI x) (fI y) (fI r),.int .i64 n] ⟨5,rwD (cellsOf (els hs)) (els hs).length (fI x) (fI y) (fI r)++[(0,.cells cs sz)]⟩ (reV b1 b2 0):=cells_one h13 (by unfold rwD;simp) rfl; have g14:FlatCall Tryz.prog 14 [.agg ⟨[sl3 2 (els hs).length]⟩,ciV (fI x) (fI y) (fI r),.int .i64 n] ⟨5,rwD (cellsOf (els hs)) (els hs).length (fI x) (fI y) (fI r)++[(0,.cells cs sz)]⟩ (meV t u):=cells_one h14 (by unfold rwD;simp) rfl
 rw[says_eq g10,says_eq g11,says_eq g12,says_eq g13,says_eq g14,hfin]at e
 exact fun_flat (C:=rwR limW _ [(7,leavesV 4 (fun b=>ofV (sl3 b (els hs).length) true) (leavesR Tryz.prog 7 4 (fun b=>ofV (sl3 b (els hs).length) true) (cellsOf (els hs))))]) (args:=rwArgs (.slice (some ⟨0,0,none⟩) (els hs).length c) x y r n) (H:=⟨1,[(0,.cells cs sz)]⟩) (rwR_ok _ (.cons (says_ok rfl) h30 (.cons (says_ok rfl) h37 (.cons (says_ok rfl) h11s (.cons (says_ok rfl) h12w (.cons (says_ok rfl) h13w (.cons (says_ok rfl) h14w .nil)))))) (.cons leaves_ok h31 .nil)) zm_ok Tryz.func3 rw_body (fun a _=>slimL_ok (told_ok _ _ _ _ a)) (Nat.le_of_ble_eq_true rfl) e (.inr rfl) (vs:=[.bool true]) rfl rfl
end
theorem whole_nil {v:Value} {x y r n:Int} (hv:v=nilS∨∃ c,v=.slice (some ⟨0,0,none⟩) 0 c) (hM:rwSize 0 x y r n=true→RwNil (fI x) (fI y) (fI r) n):FlatCall Tryz.prog 3 (rwArgs v x y r n) ⟨1,[]⟩ (.bool true):=by
 have hof:∀ H,FlatCall Tryz.prog 7 [v] H (ofV nilS true):=by
  rcases hv with rfl|⟨c,rfl⟩
  ·exact of_nil
  ·exact of_slice2 c
 cases hsz:rwSize 0 x y r n with
 |false=>
  have e:evTop (rwN fiReal rEl rSt (rAp Tryz.prog) smB of2 (weB subK lengthK) sclK timesK nearK (saysR Tryz.prog 5 (.bool true)) (saysR Tryz.prog 7 (ofV nilS true)) (saysR Tryz.prog 10 (reV 0 0 0)) (saysR Tryz.prog 11 (reV 0 0 0)) (saysR Tryz.prog 12 (reV 0 0 0)) (saysR Tryz.prog 13 (reV 0 0 0)) (saysR Tryz.prog 14 (meV 0 0)) 0 0 0 0 0 0 0 0 0 0) 60
    (rollL (rwN fiReal rEl rSt (rAp Tryz.prog) smB of2 (weB subK lengthK) sclK timesK nearK (saysR Tryz.prog 5 (.bool true)) (saysR Tryz.prog 7 (ofV nilS true)) (saysR Tryz.prog 10 (reV 0 0 0)) (saysR Tryz.prog 11 (reV 0 0 0)) (saysR Tryz.prog 12 (reV 0 0 0)) (saysR Tryz.prog 13 (reV 0 0 0)) (saysR Tryz.prog 14 (meV 0 0)) 0 0 0 0 0 0 0 0 0 0) 10) 1 157 (codeOf 3) (enumE 0 (rwArgs v x y r n)) ⟨1,[]⟩ (takeC [8] [] fun ex e O=>some (ex,e,O))=some (.ret,[(8,.bool true)],[]):=by
   rcases hv with rfl|⟨c,rfl⟩
   ·refine(rw_nilN ..).trans ?_
    rw[says_eq (awake_call _),rwPre_eq,hsz,cond_false]
   ·refine(rw_nil ..).trans ?_
    rw[says_eq (awake_call _),rwPre_eq,hsz,cond_false]
  have hok:(rwN fiReal rEl rSt (rAp Tryz.prog) smB of2 (weB subK lengthK) sclK timesK nearK (saysR Tryz.prog 5 (.bool true)) (saysR Tryz.prog 7 (ofV nilS true)) (saysR Tryz.prog 10 (reV 0 0 0)) (saysR Tryz.prog 11 (reV 0 0 0)) (saysR Tryz.prog 12 (reV 0 0 0)) (saysR Tryz.prog 13 (reV 0 0 0)) (saysR Tryz.prog 14 (meV 0 0)) 0 0 0 0 0 0 0 0 0 0).Ok:=
   rwR_ok la0 (.cons (says_ok rfl) h30 (.cons (says_ok rfl) h37 (.cons (says_ok rfl) h11s (.cons (says_ok rfl) h12w (.cons (says_ok rfl) h13w (.cons (says_ok rfl) h14w .nil)))))) (.cons (saysM_ok rfl) h31 .nil)
  exact fun_flat (args:=rwArgs v x y r n) (H:=⟨1,[]⟩) hok zm_ok Tryz.func3 rw_body (fun a _=>rollL_ok hok zm_ok 10 a) (Nat.le_of_ble_eq_true rfl) e (.inr rfl) (vs:=[.bool true]) rfl rfl
 |true=>
  obtain⟨z1,z2,y1,y2,a1,a2,b1,b2,t,u,h10,h11,h12,h13,h14,hfin⟩:=hM hsz
  have e:evTop (rwN fiReal rEl rSt (rAp Tryz.prog) smB of2 (weB subK lengthK) sclK timesK nearK (saysR Tryz.prog 5 (.bool true)) (saysR Tryz.prog 7 (ofV nilS true)) (saysR Tryz.prog 10 (reV z1 z2 0)) (saysR Tryz.prog 11 (reV y1 y2 0)) (saysR Tryz.prog 12 (reV a1 a2 0)) (saysR Tryz.prog 13 (reV b1 b2 0)) (saysR Tryz.prog 14 (meV t u)) z1 z2 y1 y2 a1 a2 b1 b2 t u) 60
    (rollL (rwN fiReal rEl rSt (rAp Tryz.prog) smB of2 (weB subK lengthK) sclK timesK nearK (saysR Tryz.prog 5 (.bool true)) (saysR Tryz.prog 7 (ofV nilS true)) (saysR Tryz.prog 10 (reV z1 z2 0)) (saysR Tryz.prog 11 (reV y1 y2 0)) (saysR Tryz.prog 12 (reV a1 a2 0)) (saysR Tryz.prog 13 (reV b1 b2 0)) (saysR Tryz.prog 14 (meV t u)) z1 z2 y1 y2 a1 a2 b1 b2 t u) 10) 1 157 (codeOf 3) (enumE 0 (rwArgs v x y r n)) ⟨1,[]⟩ (takeC [8] [] fun ex e O=>some (ex,e,O))=some (.ret,[(8,.bool true)],[]):=by
   rcases hv with rfl|⟨c,rfl⟩
   ·refine(rw_nilN ..).trans ?_
    rw[says_eq (awake_call _),rwPre_eq,hsz,cond_true,says_eq (hof _),of2_eq,forceN_eq]
    refine(says_eq (h10 _)).trans ((says_eq (h11 _)).trans ((says_eq (h12 _)).trans ((says_eq (h13 _)).trans ((says_eq (h14 _)).trans (hfin _ _ _)))))
   ·refine(rw_nil ..).trans ?_
    rw[says_eq (awake_call _),rwPre_eq,hsz,cond_true,says_eq (hof _),of2_eq,forceN_eq]
    refine(says_eq (h10 _)).trans ((says_eq (h11 _)).trans ((says_eq (h12 _)).trans ((says_eq (h13 _)).trans ((says_eq (h14 _)).trans (hfin _ _ _)))))
  have hok:(rwN fiReal rEl rSt (rAp Tryz.prog) smB of2 (weB subK lengthK) sclK timesK nearK (saysR Tryz.prog 5 (.bool true)) (saysR Tryz.prog 7 (ofV nilS true)) (saysR Tryz.prog 10 (reV z1 z2 0)) (saysR Tryz.prog 11 (reV y1 y2 0)) (saysR Tryz.prog 12 (reV a1 a2 0)) (saysR Tryz.prog 13 (reV b1 b2 0)) (saysR Tryz.prog 14 (meV t u)) z1 z2 y1 y2 a1 a2 b1 b2 t u).Ok:=
   rwR_ok la0 (.cons (says_ok rfl) h30 (.cons (says_ok rfl) h37 (.cons (says_ok rfl) h11s (.cons (says_ok rfl) h12w (.cons (says_ok rfl) h13w (.cons (says_ok rfl) h14w .nil)))))) (.cons (saysM_ok rfl) h31 .nil)
  exact fun_flat (args:=rwArgs v x y r n) (H:=⟨1,[]⟩) hok zm_ok Tryz.func3 rw_body (fun a _=>rollL_ok hok zm_ok 10 a) (Nat.le_of_ble_eq_true rfl) e (.inr rfl) (vs:=[.bool true]) rfl rfl
def halfW (r:Nat):Nat:=(fbF .quo r 4611686018427387904).getD 0
def twiceW (r:Nat):Nat:=(fbF .mul 4611686018427387904 r).getD 0
def wellV {c1 c2 r:Nat} (S:Sight c1 c2 r) (X:El):Bool:=X.kind == 1 || (X.kind == 4 || (leF (S.lw X) (halfW r) || geF (S.lw X) (twiceW r)))
theorem lt_big2 {x:Rat} (h:x.abs≤1000000000000000):x.abs<(2:Rat)^(1022:Int):=by
 have h6:=p2_le (show (50:Int)≤1022 by decide); have h8:(2:Rat)^(50:Int)=1125899906842624:=by rw[show (50:Int)=((50:Nat):Int) by rfl,p2_nat];rfl
 grind
theorem half_of {r:Int} (h1:1≤r) (h2:r≤1000):fbF .quo (fI r) 4611686018427387904=some (halfW (fI r))∧Is (halfW (fI r)) ((r:Rat)/2):=by
 have hr:Is (fI r) r:=fI_is (by omega); have r1:((1:Int):Rat)≤(r:Rat):=Rat.intCast_le_intCast.2 h1; have r2:(r:Rat)≤((1000:Int):Rat):=Rat.intCast_le_intCast.2 h2; have o1:((1:Int):Rat)=1:=rfl; have o2:((1000:Int):Rat)=1000:=rfl
 rw[o1]at r1
 rw[o2]at r2
 obtain⟨w,W,e,i,q⟩:=div_is hr is_two (by grind) (lt_big2 (abs_le_iff.2 ⟨by grind,by grind⟩))
 have eW:W=(r:Rat)/2:=q.rep r (-1) (by omega) (by decide) (by
  have h3:=p2_half 0
  rw[Rat.zpow_zero,show (0-1:Int)=-1 by decide]at h3
  grind)
 subst eW
 refine⟨?_,?_⟩
 ·unfold halfW;rw[e];rfl
 ·unfold halfW;rw[e];exact i
theorem twice_of {r:Int} (h1:1≤r) (h2:r≤1000):fbF .mul 4611686018427387904 (fI r)=some (twiceW (fI r))∧Is (twiceW (fI r)) (2*(r:Rat)):=by
 have hr:Is (fI r) r:=fI_is (by omega); have r1:((1:Int):Rat)≤(r:Rat):=Rat.intCast_le_intCast.2 h1; have r2:(r:Rat)≤((1000:Int):Rat):=Rat.intCast_le_intCast.2 h2; have o1:((1:Int):Rat)=1:=rfl; have o2:((1000:Int):Rat)=1000:=rfl
 rw[o1]at r1
 rw[o2]at r2
 obtain⟨w,W,e,i,q⟩:=mul_is is_two hr (lt_big (abs_le_iff.2 ⟨by grind,by grind⟩))
 have eW:W=2*(r:Rat):=q.rep r 1 (by omega) (by decide) (by
  rw[show (1:Int)=((1:Nat):Int) by rfl,p2_nat];grind)
 subst eW
 refine⟨?_,?_⟩
 ·unfold twiceW;rw[e];rfl
 ·unfold twiceW;rw[e];exact i
theorem well_ok {c1 c2:Nat} {r:Int} (h1:1≤r) (h2:r≤1000) (S:Sight c1 c2 (fI r)) {X:El} (hs:Seen c1 c2 S.lw X):WellOk c1 c2 (fI r) (wellV S) X:=fun R k=>by
 unfold weB wellV; cases X.kind == 1 with
 |true=>rfl
 |false=>
  rw[cond_false,Bool.false_or]
  cases X.kind == 4 with
  |true=>rfl
  |false=>
   rw[cond_false,Bool.false_or]
   refine(hs R _).trans ?_
   rw[bindF_eq (half_of h1 h2).1]
   cases leF (S.lw X) (halfW (fI r)) with
   |true=>rfl
   |false=>
    rw[cond_false,Bool.false_or,bindF_eq (twice_of h1 h2).1]
    cases geF (S.lw X) (twiceW (fI r))<;>rfl
structure Good {x y r:Int} (S:Sight (fI x) (fI y) (fI r)) (hs:List Th) (n:Int):Prop where
 len0:0<hs.length
 len6:hs.length≤6
 c:smI x y=true
 r1:1≤r
 r2:r≤1000
 n1:128≤n
 n2:n≤512
 fine:∀ h∈hs,FineT h
 see:∀ h:Th,FineT h→Seen (fI x) (fI y) S.lw h.el
 chk:∀ h∈hs,erE h.el=0
 off:∀ h∈hs,tooNear S h.el=false
 well:∀ h∈hs,wellV S h.el=true
 clean:∀ b:Bool,FlatCall Tryz.prog 38 [flowV 0 hs.length hs.length,ciV (fI x) (fI y) (fI r),.bool b] ⟨1,[(0,.cells (cellsOf (els hs)) 4)]⟩ (.int .i64 0)
theorem whole_call {cs:List Value} {sz c:Nat} {hs:List Th} {x y r n:Int} (hx:ThAt cs 0 hs) (h0:0<hs.length) (hcs:inns 0 cs=true) (hp:∀ h∈hs,h.p.natAbs≤1000) (hsz:rwSize hs.length x y r n=true)
  (hM:∀ S:Sight (fI x) (fI y) (fI r),Good S hs n→RwMain (els hs) (fI x) (fI y) (fI r) n):FlatCall Tryz.prog 3 (rwArgs (.slice (some ⟨0,0,none⟩) hs.length c) x y r n) ⟨1,[(0,.cells cs sz)]⟩ (.bool true):=by
 obtain⟨h6,hc,r1,r2,n1,n2⟩:=rwSize_iff hsz
 have hn:hs.length<900000:=by omega
 by_cases hb:∃ h∈hs,h.small=false
 ·exact whole_bad hx hn hcs hb
 have hsm:∀ h∈hs,h.small=true:=fun h hm=>by
  cases e:h.small with
  |true=>rfl
  |false=>exact absurd ⟨h,hm,e⟩ hb
 have hf:∀ h∈hs,FineT h:=fun h hm=>⟨hsm h hm,hp h hm⟩
 have hck:=check_callE (sz:=4) (c:=hs.length) (er:=erE) (elsAt_cells (els hs)) (fun _ X hX=>by
  unfold els at hX
  obtain⟨h,h1,rfl⟩:=List.mem_map.1 hX
  exact erE_told (hf h h1))
 rw[els_length]at hck
 by_cases he:flowEr erE (els hs)=0
 ·have hI:=of_leaves (c:=c) (sz:=sz) (x:=x) (y:=y) hx hn h0 hcs hsm (b:=true) (by rw[he];rfl) hck; have hall:∀ h∈hs,erE h.el=0:=fun h hm=>flowEr_all he _ (by unfold els;exact List.mem_map_of_mem hm)
  have hF:=fits_of hc r1 (show r≤40000 by omega)
  obtain⟨S,hsee⟩:=sight_of hc r1 (show r≤40000 by omega)
  have hseen:∀ X∈els hs,Seen (fI x) (fI y) S.lw X:=fun X hX=>by
   unfold els at hX
   obtain⟨h,h1,rfl⟩:=List.mem_map.1 hX
   exact hsee h (hf h h1)
  have hw:∀ X∈els hs,WellOk (fI x) (fI y) (fI r) (wellV S) X:=fun X hX=>well_ok r1 r2 S (hseen X hX)
  have e:=els_length hs; have hI':=hI
  rw[← e]at hI'
  have hsz':rwSize (els hs).length x y r n=true:=by rw[e];exact hsz
  have fin:FlatCall Tryz.prog 3 (rwArgs (.slice (some ⟨0,0,none⟩) (els hs).length c) x y r n) ⟨1,[(0,.cells cs sz)]⟩ (.bool true):=by
   by_cases hv:∃ X∈els hs,wellV S X=false
   ·exact whole_not hI' (by omega) hw hv
   have hv':∀ X∈els hs,wellV S X=true:=fun X hX=>by
    cases e:wellV S X with
    |true=>rfl
    |false=>exact absurd ⟨X,hX,e⟩ hv
   have hcl:=fun b:Bool=>clean_at (sz:=4) (c:=hs.length) S (elsAt_cells (els hs)) hf (by omega) (row_cells _).2.1 hF hall (fun h hm=>hsee h (hf h hm)) b
   cases hany:(els hs).any (tooNear S) with
   |true=>
    rw[hany]at hcl
    have hc1:=hcl true
    rw[← e]at hc1
    have g1:=squares_err (row_cells (els hs)).2.1 hc1; have g2:=residues_call (row_cells (els hs)).2.1 (re_call_err (row_cells (els hs)).2.1 hc1); exact whole_err hI' (by omega) hw hv' g2 g1 hsz'
   |false=>
    rw[hany]at hcl
    have hnear:∀ h∈hs,tooNear S h.el=false:=fun h hm=>by
     have:=List.any_eq_false.1 hany h.el (by unfold els;exact List.mem_map_of_mem hm)
     simpa using this
    exact whole_good hI' (by omega) hw hv' (hM S ⟨h0,h6,hc,r1,r2,n1,n2,hf,hsee,hall,hnear,fun h hm=>hv' _ (by unfold els;exact List.mem_map_of_mem hm),hcl⟩) hsz'
  rw[e]at fin
  exact fin
 ·exact whole_badc (of_leaves (c:=c) (sz:=sz) (x:=x) (y:=y) hx hn h0 hcs hsm (b:=false) (by simpa using he) hck)
end Go.Vm
