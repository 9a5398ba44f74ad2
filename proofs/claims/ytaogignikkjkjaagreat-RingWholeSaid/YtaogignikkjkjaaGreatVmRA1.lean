/- A part of the evaluator and of what is told of floats; no conditions. -/
import Derived.Test.YtaogignikkjkjaaGreatVmZ9
set_option linter.unusedSimpArgs false
set_option linter.unusedVariables false
set_option maxRecDepth 1000000
set_option linter.unusedSectionVars false
namespace Go.Vm
open Go.Proofs
def smB:KG2B:=fun R x y k=>forceB (decide (x ≥ -1000)) fun t=>match t with
 |false=>k false
 |true=>forceB (decide (x≤1000)) fun t=>match t with
  |false=>k false
  |true=>forceB (decide (y ≥ -1000)) fun t=>match t with
   |false=>k false
   |true=>forceB (decide (y≤1000)) fun t=>k t
theorem smB_eq {R:Type} (x y:Int) (k:Bool→Option R):smB R x y k=k (smI x y):=by
 unfold smB smI; simp only[forceB_eq]; cases h1:decide (x ≥ -1000) with
 |false=>rfl
 |true=>
  cases h2:decide (x≤1000) with
  |false=>rfl
  |true=>
   cases h3:decide (y ≥ -1000) with
   |false=>rfl
   |true=>rfl
theorem z_sm33 (R:Type) (x y:Int) (k:Value→Option R):evFn (cx Tryz.prog []) 60 6 [.agg ⟨[.int .i16 x,.int .i16 y]⟩] k=smB R x y fun t=>k (.bool t):=by kernel_rfl
theorem z_of32 (R:Type) (x y:Int) (k:Value→Option R):evFn (cx Tryz.prog []) 60 8 [.agg ⟨[.int .i16 x,.int .i16 y]⟩] k=ofK x y fun a b=>k (.complex .f64 a b):=by kernel_rfl
theorem h33:Has Tryz.prog 6:=⟨Tryz.f6,_,Tryz.func6,by kernel_rfl,rfl⟩
theorem h32:Has Tryz.prog 8:=⟨Tryz.f8,_,Tryz.func8,by kernel_rfl,rfl⟩
def of2:KG2C:=fun R x y k=>ofK x y k
theorem of2_eq {R:Type} (x y:Int) (k:Nat→Nat→Option R):of2 R x y k=k (fI x) (fI y):=by
 unfold of2 ofK fI; simp only[forceN_eq]
theorem k33:SumOk Tryz.prog 6 (sG2B smB):=sumOk_of zm_ok .nil (n:=60) fun R args k r hr=>by
 unfold sG2B at hr;split at hr
 ·refine⟨rfl,(z_sm33 R _ _ k).trans ?_⟩
  simp only[forceB_eq]at hr
  exact hr
 ·cases hr
theorem k32:SumOk Tryz.prog 8 (sG2C of2):=sumOk_of zm_ok .nil (n:=60) fun R args k r hr=>by
 unfold sG2C at hr;split at hr
 ·exact⟨rfl,(z_of32 R _ _ k).trans hr⟩
 ·cases hr
theorem more54:MoreCells Tryz.prog 25 2:=fun R cs off k=>by kernel_rfl
theorem one5:OneCell Tryz.prog 5:=fun R cs off k=>by kernel_rfl
theorem one143:OneCell Tryz.prog 74:=fun R cs off k=>by kernel_rfl
noncomputable def ofR (lim:Nat→Bool) (gl:List (Nat×HSum)):Cx:=ofC lim fiReal (rII .i16) (rI .u8) (rI .i8) rSt (rAp Tryz.prog) smB of2 gl
theorem ofR_ok (lim:Nat→Bool) {gl:List (Nat×HSum)} (hg:GsOk Tryz.prog gl):(ofR lim gl).Ok:=
 cxM_ok no_meth (.cons k33 h33 (.cons k32 h32 .nil)) no_ext hg .nil (mmOf_ok (.cons (ldII_ok more54) (.cons (ldI_ok one5) (.cons (ldI_ok one143) .nil))))
section
variable {cs:List Value} {sz c n:Nat} {xs:List Th}
theorem drop_more {l a r:List Value} {off:Nat} (h:l.drop off=a++r) (j:Nat) (hj:j≤a.length):l.drop (off+j)=a.drop j++r:=by
 rw[← List.drop_drop,h,List.drop_append,show j-a.length=0 by omega,List.drop_zero]
theorem get_more {l a r:List Value} {off:Nat} (h:l.drop off=a++r) (j:Nat) (hj:j<a.length):l[off+j]?=a[j]?:=by
 rw[← List.getElem?_drop,h,List.getElem?_append_left hj]
theorem rdB_at (hx:ThAt cs 0 xs) {k:Nat} {h:Th} (hk:xs[k]?=some h) (R:Type) (bad:Option R) (go:Int→Nat→Nat→Nat→Nat→Nat→Option R):
  rdB (rII .i16) (rI .u8) (rI .i8) smB of2 cs xs.length k bad go=bif h.small then go h.el.kind h.el.a1 h.el.a2 h.el.s1 h.el.s2 h.el.p else bad:=by
 obtain⟨rest,e⟩:=hx k h hk
 have hkn:=(List.getElem?_eq_some_iff.1 hk).1; have hr:(decide (0≤(k:Int)) && decide ((k:Int)<xs.length) && true)=true:=by
  rw[decide_eq_true (show (0:Int)≤(k:Int) by omega),decide_eq_true (show (k:Int)<xs.length by omega)];rfl
 have e1:∀(R:Type) (K:Int→Int→Option R),rII .i16 R cs (0+k*6+1) K=K h.x h.y:=fun R K=>by
  unfold rII
  rw[drop_more e 1 (by show 1≤6;omega)];rfl
 have e3:∀(R:Type) (K:Int→Int→Option R),rII .i16 R cs (0+k*6+3) K=K h.s h.t:=fun R K=>by
  unfold rII
  rw[drop_more e 3 (by show 3≤6;omega)];rfl
 have e0:∀(R:Type) (K:Int→Option R),rI .u8 R cs (0+k*6+0) K=K h.kind:=fun R K=>by
  unfold rI
  rw[get_more e 0 (by show 0<6;omega)];rfl
 have e5:∀(R:Type) (K:Int→Option R),rI .i8 R cs (0+k*6+5) K=K h.p:=fun R K=>by
  unfold rI
  rw[get_more e 5 (by show 5<6;omega)];rfl
 unfold rdB Th.small
 rw[hr]
 simp only[cond_true,e1,e3,e0,e5,smB_eq,of2_eq,forceN_eq]
 cases smI h.x h.y with
 |false=>rfl
 |true=>
  cases smI h.s h.t with
  |false=>rfl
  |true=>rfl
def ofH (cs:List Value) (sz:Nat) (ys:List El):AH:=match ys with
 |[]=>⟨3,ofD nilS++[(0,.cells cs sz)]⟩
 |_::_=>⟨4,ofD (sl3 3 ys.length)++[(3,.cells (cellsOf ys) 4),(0,.cells cs sz)]⟩
theorem of_loops:loopsIn ofL=[]:=by kernel_rfl
theorem El.cs_eq (x:El):([.int .u8 x.kind,.complex .f64 x.a1 x.a2,.complex .f64 x.s1 x.s2,.float .f64 x.p]:List Value)=x.cs:=rfl
theorem of_step (hx:ThAt cs 0 xs) (hn:xs.length<900000) {k:Nat} {h:Th} (hk:xs[k]?=some h) (hs:h.small=true) {ys:List El} (hl:ys.length=k):
  BaseOk Tryz.prog 1 62 ⟨3,ofD nilS++[(0,.cells cs sz)]⟩ (ofE xs.length c k) (ofH cs sz ys) .normal (ofE xs.length c (k+1:Nat)) (ofH cs sz (ys++[h.el])) (fun Q a w=>ofL.wp Tryz.prog Q a w):=by
 have hkn:=(List.getElem?_eq_some_iff.1 hk).1; cases ys with
 |nil=>
  simp only[List.length_nil]at hl
  subst hl; show BaseOk Tryz.prog 1 62 _ _ _ _ _ ⟨4,ofD (sl3 3 1)++[(3,.cells (h.el.cs++[]) 4),(0,.cells cs sz)]⟩ _
  rw[List.append_nil]
  exact round_told (C:=ofR oa0 []) (H0:=⟨3,ofD nilS++[(0,.cells cs sz)]⟩) (e:=ofE xs.length c (0:Nat)) (H:=⟨3,ofD nilS++[(0,.cells cs sz)]⟩) (n:=60) (ts:=[5,0,4,2,3]) (bo:=[2,1,4]) (bs:=[4])
   (A:=ofD (sl3 3 1)++[(3,.cells h.el.cs 4)]) (B:=[(0,.cells cs sz)]) (D:=ofD nilS) (ofR_ok _ .nil) zm_ok of_loops
   (by
     unfold ofR
     refine(of_round0 fiReal _ _ _ _ _ _ _ _ cs sz xs.length c 0 _).trans ?_
     rw[decide_eq_true (show ((0:Nat):Int)<xs.length by omega),cond_true,rdB_at hx hk,hs,cond_true,fiReal_fair,wrap_up (by omega),El.cs_eq]) rfl
   rfl rfl rfl rfl rfl rfl
 |cons y0 ys=>
  have hc:cellsOf ((y0::ys)++[h.el])=cellsOf (y0::ys)++h.el.cs:=by
   rw[cells_app]
   show _++(h.el.cs++[])=_
   rw[List.append_nil]
  show BaseOk Tryz.prog 1 62 _ _ _ _ _ ⟨4,ofD (sl3 3 ((y0::ys)++[h.el]).length)++[(3,.cells (cellsOf ((y0::ys)++[h.el])) 4),(0,.cells cs sz)]⟩ _
  rw[hc,List.length_append]
  have hf:inns 0 (cellsOf (y0::ys)++h.el.cs)=true:=inns_app (row_cells _).2.1 rfl; exact round_told (C:=ofR oa3 []) (H0:=⟨3,ofD nilS++[(0,.cells cs sz)]⟩) (e:=ofE xs.length c k) (H:=⟨4,ofD (sl3 3 (y0::ys).length)++[(3,.cells (cellsOf (y0::ys)) 4),(0,.cells cs sz)]⟩) (n:=60) (ts:=[5,0,4,2,3]) (bo:=[2,1,5]) (bs:=[5])
   (A:=ofD (sl3 3 ((y0::ys).length+1))++[(3,.cells (cellsOf (y0::ys)++h.el.cs) 4)]) (B:=[(0,.cells cs sz)]) (D:=ofD nilS) (ofR_ok _ .nil) zm_ok of_loops
   (by
     unfold ofR
     refine(of_round1 fiReal _ _ _ _ _ _ _ _ cs _ sz xs.length c k _ _).trans ?_
     rw[decide_eq_true (show (k:Int)<xs.length by omega),cond_true,rdB_at hx hk,hs,cond_true,ap55_ok (row_cells (y0::ys)).1 rfl rfl (by omega) (by omega),fiReal_fair,wrap_up (by omega)]
     try rfl) rfl
   (by
     show renOs _ ((2,.cells [sl3 5 ((y0::ys).length+1)] 0)::(1,.cells [.slice none 0 0] 0)::[(5,.cells (cellsOf (y0::ys)++h.el.cs) 4)])=_; have e:=renOs_row (p:=placeW 3 [5]) (b:=5) (k:=3) (sz:=4) (D:=[]) (D2:=[]) rfl hf rfl; simp only[renOs,renO,renL,renV]at e ⊢
     rw[rens_flat hf]
     rfl) rfl rfl rfl rfl rfl
end
def la0 (b:Nat):Bool:=Nat.beq b 0
theorem h107:Has Tryz.prog 34:=⟨Tryz.f34,_,Tryz.func34,by kernel_rfl,rfl⟩
theorem first_bad:∀{xs:List Th},(∃ h∈xs,h.small=false)→∃(j:Nat) (h:Th),xs[j]?=some h∧h.small=false∧∀(i:Nat) (g:Th),i<j→xs[i]?=some g→g.small=true
 |[],⟨h,hm,_⟩=>by simp at hm
 |x::r,⟨h,hm,hs⟩=>by
  cases hx:x.small with
  |false=>exact⟨0,x,rfl,hx,fun i g hi=>by omega⟩
  |true=>
   rcases List.mem_cons.1 hm with rfl|hm
   ·rw[hx]at hs;cases hs
   ·obtain⟨j,g,h1,h2,h3⟩:=first_bad (xs:=r) ⟨h,hm,hs⟩
    refine⟨j+1,g,by simpa using h1,h2,fun i u hi hu=>?_⟩
    cases i with
    |zero=>simp only[List.getElem?_cons_zero,Option.some.injEq]at hu;subst hu;exact hx
    |succ i=>exact h3 i u (by omega) (by simpa using hu)
def els (xs:List Th):List El:=xs.map Th.el
section
variable {cs:List Value} {sz c n:Nat} {xs:List Th}
theorem els_take {k:Nat} {h:Th} (hk:xs[k]?=some h):els (xs.take (k+1))=els (xs.take k)++[h.el]:=by
 unfold els
 rw[List.take_add_one,hk]
 simp
theorem els_len (k:Nat) (h:k≤xs.length):(els (xs.take k)).length=k:=by unfold els;simp;omega
theorem of_bad (hx:ThAt cs 0 xs) (hn:xs.length<900000) {k:Nat} {h:Th} (hk:xs[k]?=some h) (hs:h.small=false) {ys:List El} (hl:ys.length=k):
  ∃ v nx,BaseOk Tryz.prog 1 62 ⟨3,ofD nilS++[(0,.cells cs sz)]⟩ (ofE xs.length c k) (ofH cs sz ys) .ret (ofX xs.length c k) ⟨nx,ofD v++[(0,.cells cs sz)]⟩ (fun Q a w=>ofL.wp Tryz.prog Q a w):=by
 have hkn:=(List.getElem?_eq_some_iff.1 hk).1; cases ys with
 |nil=>
  simp only[List.length_nil]at hl
  subst hl
  refine⟨nilS,3,?_⟩
  exact round_told (C:=ofR oa0 []) (H0:=⟨3,ofD nilS++[(0,.cells cs sz)]⟩) (e:=ofE xs.length c (0:Nat)) (H:=⟨3,ofD nilS++[(0,.cells cs sz)]⟩) (n:=60) (ts:=[5,0,4,2,3]) (bo:=[2,1,4]) (bs:=[])
   (A:=ofD nilS) (B:=[(0,.cells cs sz)]) (D:=ofD nilS) (ofR_ok _ .nil) zm_ok of_loops
   (by
     unfold ofR
     refine(of_round0 fiReal _ _ _ _ _ _ _ _ cs sz xs.length c 0 _).trans ?_
     rw[decide_eq_true (show ((0:Nat):Int)<xs.length by omega),cond_true,rdB_at hx hk,hs,cond_false]) rfl
   rfl rfl rfl rfl rfl rfl
 |cons y0 ys=>
  refine⟨sl3 3 (y0::ys).length,4,?_⟩
  exact round_told (C:=ofR oa3 []) (H0:=⟨3,ofD nilS++[(0,.cells cs sz)]⟩) (e:=ofE xs.length c k) (H:=⟨4,ofD (sl3 3 (y0::ys).length)++[(3,.cells (cellsOf (y0::ys)) 4),(0,.cells cs sz)]⟩) (n:=60) (ts:=[5,0,4,2,3]) (bo:=[2,1,5]) (bs:=[3])
   (A:=ofD (sl3 3 (y0::ys).length)) (B:=[(0,.cells cs sz)]) (D:=ofD nilS) (ofR_ok _ .nil) zm_ok of_loops
   (by
     unfold ofR
     refine(of_round1 fiReal _ _ _ _ _ _ _ _ cs _ sz xs.length c k _ _).trans ?_
     rw[decide_eq_true (show (k:Int)<xs.length by omega),cond_true,rdB_at hx hk,hs,cond_false]) rfl
   rfl rfl rfl rfl rfl rfl
theorem of_last {ys:List El} (hy:0<ys.length):
  BaseOk Tryz.prog 1 62 ⟨3,ofD nilS++[(0,.cells cs sz)]⟩ (ofE n c n) (ofH cs sz ys) (.exit 0) (ofE n c n) ⟨4,(ofD (sl3 3 ys.length)++[(3,.cells (cellsOf ys) 4)])++[(0,.cells cs sz)]⟩ (fun Q a w=>ofL.wp Tryz.prog Q a w):=by
 cases ys with
 |nil=>simp at hy
 |cons y0 ys=>
  exact round_told (C:=ofR oa3 []) (H0:=⟨3,ofD nilS++[(0,.cells cs sz)]⟩) (e:=ofE n c n) (H:=⟨4,ofD (sl3 3 (y0::ys).length)++[(3,.cells (cellsOf (y0::ys)) 4),(0,.cells cs sz)]⟩) (n:=60) (ts:=[5,0,4,2,3]) (bo:=[2,1,3]) (bs:=[3])
   (A:=ofD (sl3 3 (y0::ys).length)++[(3,.cells (cellsOf (y0::ys)) 4)]) (B:=[(0,.cells cs sz)]) (D:=ofD nilS) (ofR_ok _ .nil) zm_ok of_loops
   (by
     unfold ofR
     refine(of_round2 fiReal _ _ _ _ _ _ _ _ cs _ sz n c n _ _).trans ?_
     rw[decide_eq_false (by omega)]
     rfl) rfl
   (by
     simp only[ofD,sl3,List.cons_append,List.nil_append,renOs,renO,renL,renV]
     rw[rens_flat (row_cells _).2.1]
     rfl) rfl rfl rfl rfl rfl
theorem of_rounds_good (hx:ThAt cs 0 xs) (hn:xs.length<900000) (h0:0<xs.length) (hs:∀ h∈xs,h.small=true):
  BaseRounds Tryz.prog 1 62 ⟨3,ofD nilS++[(0,.cells cs sz)]⟩ ofL (ofE xs.length c (0:Nat)) ⟨3,ofD nilS++[(0,.cells cs sz)]⟩ (.exit 0) (ofE xs.length c xs.length) ⟨4,(ofD (sl3 3 xs.length)++[(3,.cells (cellsOf (els xs)) 4)])++[(0,.cells cs sz)]⟩:=by
 have hl:(els xs).length=xs.length:=by unfold els;simp
 refine base_count (E:=fun k:Nat=>ofE xs.length c k) (H:=fun k=>ofH cs sz (els (xs.take k))) xs.length 0 (fun k _ hk=>?_) (base_end (by intro h;cases h) ?_)
 ·have hk':=List.getElem?_eq_getElem (show k<xs.length by omega)
  rw[els_take hk']
  exact of_step hx hn hk' (hs _ (List.getElem_mem _)) (els_len k (by omega))
 ·simp only[Nat.zero_add,List.take_length]
  have:=of_last (cs:=cs) (sz:=sz) (n:=xs.length) (c:=c) (ys:=els xs) (by omega)
  rw[hl]at this
  exact this
theorem of_rounds_bad (hx:ThAt cs 0 xs) (hn:xs.length<900000) (hs:∃ h∈xs,h.small=false):
  ∃(j:Nat) (v:Value) (nx:Nat),BaseRounds Tryz.prog 1 62 ⟨3,ofD nilS++[(0,.cells cs sz)]⟩ ofL (ofE xs.length c (0:Nat)) ⟨3,ofD nilS++[(0,.cells cs sz)]⟩ .ret (ofX xs.length c j) ⟨nx,ofD v++[(0,.cells cs sz)]⟩:=by
 obtain⟨j,h,h1,h2,h3⟩:=first_bad hs
 have hj:=(List.getElem?_eq_some_iff.1 h1).1
 obtain⟨v,nx,hbad⟩:=of_bad (cs:=cs) (sz:=sz) (c:=c) (ys:=els (xs.take j)) hx hn h1 h2 (els_len j (by omega))
 refine⟨j,v,nx,base_count (E:=fun k:Nat=>ofE xs.length c k) (H:=fun k=>ofH cs sz (els (xs.take k))) j 0 (fun k _ hk=>?_) (base_end (by intro h;cases h) ?_)⟩
 ·have hk':=List.getElem?_eq_getElem (show k<xs.length by omega)
  rw[els_take hk']
  exact of_step hx hn hk' (h3 k _ (by omega) hk') (els_len k (by omega))
 ·simp only[Nat.zero_add]
  exact hbad
end
section
variable (L:Hand) (fi:Fi) (R:Type) (g2:GII) (gk gp:GI) (st:St) (ap:Ap) (sm:KG2B) (of:KG2C) (e:Int) (gc:HT) (gl:List (Nat×HSum)) (cs os:List Value) (sz n c k j:Nat) (K:Ex→Env→Objs→Option R)
theorem of_top:evTop (ofC oa0 fi g2 gk gp st ap sm of gl) 60 (slimL [5,0,4,2] [2,1,0] L) 1 62 (codeOf 7) (enumE 0 [.slice (some ⟨0,0,none⟩) n c]) ⟨1,[(0,.cells cs sz)]⟩ (takeC [2,3] [1,3] K) =
  L R 1 62 ofL (ofE n c 0) ⟨3,ofD nilS++[(0,.cells cs sz)]⟩ (leaveE 0 (thenE (fun en H=>evTop (ofC oa0 fi g2 gk gp st ap sm of gl) 60 (slimL [5,0,4,2] [2,1,0] L) 1 62 (seqN 3 (codeOf 7)) en H (takeC [2,3] [1,3] K)) (takeC [2,3] [1,3] K))):=by kernel_rfl
theorem of_end:evTop (ofC oa0 fi g2 gk gp st ap sm of [(34,saysV (.int .i64 e) gc)]) 60 L 1 62 (seqN 3 (codeOf 7)) (ofE n c k) ⟨4,ofD (sl3 3 j)++[(3,.cells os 4),(0,.cells cs sz)]⟩ (takeC [2,3] [1,3] K) =
  gc R [.agg ⟨[sl3 3 j]⟩] ⟨4,ofD (sl3 3 j)++[(3,.cells os 4),(0,.cells cs sz)]⟩ (bif e == 0 then K .ret [(2,.pointer (some ⟨1,0,none⟩)),(3,.bool true)] [(1,.cells [sl3 3 j] 0),(3,.cells os 4)] else K .ret [(2,.pointer (some ⟨1,0,none⟩)),(3,.bool false)] [(1,.cells [sl3 3 j] 0),(3,.cells os 4)]):=by kernel_rfl
end
theorem of_body:Tryz.f7.body=some (codeOf 7):=by kernel_rfl
def ofV (v:Value) (b:Bool):Value:=.tuple ⟨[.agg ⟨[v]⟩,.bool b]⟩
section
variable {cs:List Value} {sz c n:Nat} {xs:List Th}
theorem of_call_bad (hx:ThAt cs 0 xs) (hn:xs.length<900000) (hs:∃ h∈xs,h.small=false):FlatCall Tryz.prog 7 [.slice (some ⟨0,0,none⟩) xs.length c] ⟨1,[(0,.cells cs sz)]⟩ (ofV nilS false):=by
 obtain⟨j,v,nx,hB⟩:=of_rounds_bad (sz:=sz) (c:=c) hx hn hs
 have hB':=@base_loop _ _ _ _ _ _ _ _ _ hB; have h:=of_top (told Tryz.prog .ret (ofX xs.length c j) ⟨nx,ofD v++[(0,.cells cs sz)]⟩) fiReal (Ex×Env×Objs) (rII .i16) (rI .u8) (rI .i8) rSt (rAp Tryz.prog) smB of2 [] cs sz xs.length c fun ex e O=>some (ex,e,O)
 have h:=h.trans (told_eq @hB' _ _); exact fun_flat (C:=ofR oa0 []) (args:=[.slice (some ⟨0,0,none⟩) xs.length c]) (H:=⟨1,[(0,.cells cs sz)]⟩) (ofR_ok _ .nil) zm_ok Tryz.func7 of_body (fun a _=>slimL_ok (told_ok _ _ _ _ a)) (Nat.le_of_ble_eq_true rfl) h (.inr rfl) (vs:=[.agg ⟨[nilS]⟩,.bool false]) rfl rfl
theorem of_call_good (hx:ThAt cs 0 xs) (hn:xs.length<900000) (h0:0<xs.length) (hs:∀ h∈xs,h.small=true) {e:Int} (hck:FlatCall Tryz.prog 34 [flowV 0 xs.length xs.length] ⟨1,[(0,.cells (cellsOf (els xs)) 4)]⟩ (.int .i64 e)):
  ∃ H',(3,.cells (cellsOf (els xs)) 4)∈H'.objs∧∀ ρ w args',Inv ρ ⟨1,[(0,.cells cs sz)]⟩ w→VRels ρ [.slice (some ⟨0,0,none⟩) xs.length c] args'→
   Calls Tryz.prog 7 ⟨args'⟩ w fun en w'=>∃ ρ' v',en=.returned v'∧VRel ρ' (ofV (sl3 3 xs.length) (e == 0)) v'∧Next 1 ρ ⟨1,[(0,.cells cs sz)]⟩ w ρ' H' w':=by
 have hB':=@base_loop _ _ _ _ _ _ _ _ _ (of_rounds_good (sz:=sz) (c:=c) hx hn h0 hs); have h:=of_top (told Tryz.prog (.exit 0) (ofE xs.length c xs.length) ⟨4,(ofD (sl3 3 xs.length)++[(3,.cells (cellsOf (els xs)) 4)])++[(0,.cells cs sz)]⟩) fiReal (Ex×Env×Objs) (rII .i16) (rI .u8) (rI .i8) rSt (rAp Tryz.prog) smB of2 [(34,saysV (.int .i64 e) (saysR Tryz.prog 34 (.int .i64 e)))] cs sz xs.length c fun ex e O=>some (ex,e,O)
 have h:=h.trans (told_eq @hB' _ _)
 rw[leave_then]at h
 have h:=h.trans (of_end _ fiReal _ _ _ _ _ _ _ _ e _ cs (cellsOf (els xs)) sz xs.length c xs.length xs.length _); have hck':FlatCall Tryz.prog 34 [.agg ⟨[sl3 3 xs.length]⟩] ⟨4,ofD (sl3 3 xs.length)++[(3,.cells (cellsOf (els xs)) 4),(0,.cells cs sz)]⟩ (.int .i64 e):=FlatCall.one (b:=3) hck (row_cells _).2.1 (by simp) rfl
 rw[says_eq hck']at h
 have key:∀ b,h=h→(e == 0)=b→∃ H',(3,.cells (cellsOf (els xs)) 4)∈H'.objs∧∀ ρ w args',Inv ρ ⟨1,[(0,.cells cs sz)]⟩ w→VRels ρ [.slice (some ⟨0,0,none⟩) xs.length c] args'→
   Calls Tryz.prog 7 ⟨args'⟩ w fun en w'=>∃ ρ' v',en=.returned v'∧VRel ρ' (ofV (sl3 3 xs.length) b) v'∧Next 1 ρ ⟨1,[(0,.cells cs sz)]⟩ w ρ' H' w':=by
  intro b _ hb
  rw[hb]at h
  cases b with
  |true=>
   obtain⟨H',hO,g⟩:=fun_mem (C:=ofR oa0 [(34,saysV (.int .i64 e) (saysR Tryz.prog 34 (.int .i64 e)))]) (args:=[.slice (some ⟨0,0,none⟩) xs.length c]) (H:=⟨1,[(0,.cells cs sz)]⟩) (ofR_ok _ (.cons (says_ok rfl) h107 .nil)) zm_ok Tryz.func7 of_body (fun a _=>slimL_ok (told_ok _ _ _ _ a)) (Nat.le_of_ble_eq_true rfl) h (.inr rfl) (vs:=[.agg ⟨[sl3 3 xs.length]⟩,.bool true]) rfl
   exact⟨H',hO _ (by simp),g⟩
  |false=>
   obtain⟨H',hO,g⟩:=fun_mem (C:=ofR oa0 [(34,saysV (.int .i64 e) (saysR Tryz.prog 34 (.int .i64 e)))]) (args:=[.slice (some ⟨0,0,none⟩) xs.length c]) (H:=⟨1,[(0,.cells cs sz)]⟩) (ofR_ok _ (.cons (says_ok rfl) h107 .nil)) zm_ok Tryz.func7 of_body (fun a _=>slimL_ok (told_ok _ _ _ _ a)) (Nat.le_of_ble_eq_true rfl) h (.inr rfl) (vs:=[.agg ⟨[sl3 3 xs.length]⟩,.bool false]) rfl
   exact⟨H',hO _ (by simp),g⟩
 exact key _ rfl rfl
end
theorem first_of {α:Type} {P:α→Bool}:∀{xs:List α},xs.any P=true→∃(j:Nat) (x:α),xs[j]?=some x∧P x=true∧∀(i:Nat) (g:α),i<j→xs[i]?=some g→P g=false
 |[],h=>by cases h
 |x::r,h=>by
  cases hx:P x with
  |true=>exact⟨0,x,rfl,hx,fun i g hi=>by omega⟩
  |false=>
   rw[List.any_cons,hx,Bool.false_or]at h
   obtain⟨j,g,h1,h2,h3⟩:=first_of h
   refine⟨j+1,g,by simpa using h1,h2,fun i u hi hu=>?_⟩
   cases i with
   |zero=>simp only[List.getElem?_cons_zero,Option.some.injEq]at hu;subst hu;exact hx
   |succ i=>exact h3 i u (by omega) (by simpa using hu)
theorem none_of {α:Type} {P:α→Bool} {xs:List α} (h:xs.any P=false):∀(i:Nat) (g:α),xs[i]?=some g→P g=false:=fun i g hg=>by
 have:=List.any_eq_false.1 h g (List.mem_of_getElem? hg)
 simpa using this
abbrev KOut:=∀ R:Type,Nat→Nat→Nat→Nat→(Nat→Option R)→Option R
def sOut (g:KOut):Sum:=fun R args k=>match args with
 |[.agg ⟨[.int .u8 kind,.complex .f64 a1 a2,.complex .f64 s1 s2,.float .f64 p]⟩,.agg ⟨[.complex .f64 c1 c2,.float .f64 r]⟩]=>g R a1 a2 c1 c2 fun l=>k (.float .f64 l)
 |_=>none
def outC (sub:KCCC) (len:KCF):KOut:=fun R a1 a2 c1 c2 k=>sub R a1 a2 c1 c2 fun d1 d2=>len R d1 d2 k
theorem z_out (sub:KCCC) (len:KCF) (R:Type) (kind:Int) (a1 a2 s1 s2 p c1 c2 r:Nat) (k:Value→Option R):
  evFn (cx Tryz.prog [(35,sCCC sub),(29,sCF len)]) 60 86 [.agg ⟨[.int .u8 kind,.complex .f64 a1 a2,.complex .f64 s1 s2,.float .f64 p]⟩,.agg ⟨[.complex .f64 c1 c2,.float .f64 r]⟩] k=outC sub len R a1 a2 c1 c2 fun l=>k (.float .f64 l):=by kernel_rfl
theorem h240:Has Tryz.prog 86:=⟨Tryz.f86,_,Tryz.func86,by kernel_rfl,rfl⟩
theorem h239:Has Tryz.prog 85:=⟨Tryz.f85,_,Tryz.func85,by kernel_rfl,rfl⟩
theorem h192:Has Tryz.prog 38:=⟨Tryz.f38,_,Tryz.func38,by kernel_rfl,rfl⟩
theorem k240:SumOk Tryz.prog 86 (sOut (outC subK lengthK)):=sumOk_of zm_ok (.cons k21 h21 (.cons k38 h38 .nil)) (n:=60) fun R args k r hr=>by
 unfold sOut at hr;split at hr
 ·exact⟨rfl,(z_out subK lengthK R _ _ _ _ _ _ _ _ _ k).trans hr⟩
 ·cases hr
noncomputable def clA:Code:=loopNo (codeOf 38) 0
noncomputable def clB:Code:=loopNo (codeOf 38) 1
noncomputable def clC (fi:Fi) (ge:GEl) (st:St) (ap:Ap) (out:KOut) (gl:List (Nat×HSum)):Cx:=
 cxM fi Tryz.prog (fun _ _=>none) [(86,sOut out)] [] gl [] (mmOf la0 [(39,gEl ge)] st ap)
def ciV (c1 c2 r:Nat):Value:=.agg ⟨[.complex .f64 c1 c2,.float .f64 r]⟩
def clE (o n c t:Nat) (b:Bool) (k:Int):Env:=[(26,.int .i64 k),(25,.int .i64 n),(24,.slice (some ⟨0,o,none⟩) n c),(4,.pointer (some ⟨2,0,none⟩)),(8,.float .f64 t),(3,.pointer (some ⟨1,0,none⟩)),(2,.bool b)]
def clF (o n c:Nat) (b:Bool) (k:Int):Env:=[(56,.int .i64 k),(55,.int .i64 n),(54,.slice (some ⟨0,o,none⟩) n c),(2,.bool b)]
def clD (o n c c1 c2 r:Nat):Objs:=[(2,.cells [.complex .f64 c1 c2,.float .f64 r] 0),(1,.cells [.slice (some ⟨0,o,none⟩) n c] 0)]
section
variable (L1 L2:Hand) (fi:Fi) (R:Type) (ge:GEl) (st:St) (ap:Ap) (out:KOut) (ga:HT) (gl:List (Nat×HSum)) (cs:List Value) (sz o n c k c1 c2 r t:Nat) (b:Bool) (K:Ex→Env→Objs→Option R)
theorem clA_round:evTop (clC fi ge st ap out []) 60 noL 1 76 clA (clE o n c t b k) ⟨3,clD o n c c1 c2 r++[(0,.cells cs sz)]⟩ (takeC [26,25,24,4,8,3,2,6] [2,1] K) =
  bif decide ((k:Int)<n) then
   bif decide (0≤(k:Int)) && decide ((k:Int)<n) && true then
    ge R cs (o+k*4) fun kind a1 a2 s1 s2 p=>out R a1 a2 c1 c2 fun l=>
     bif kind != 1 then
      bindF (fbF .add r t) fun rp=>bif leF l rp then
       bindF (fbF .sub r t) fun rm=>bif geF l rm then K .ret (clE o n c t b k++[(6,.int .i64 210)]) (clD o n c c1 c2 r)
       else fi R (IntKind.i64.wrap (k+1)) fun i=>K .normal (clE o n c t b i) (clD o n c c1 c2 r)
      else fi R (IntKind.i64.wrap (k+1)) fun i=>K .normal (clE o n c t b i) (clD o n c c1 c2 r)
     else fi R (IntKind.i64.wrap (k+1)) fun i=>K .normal (clE o n c t b i) (clD o n c c1 c2 r)
   else none
  else K (.exit 0) (clE o n c t b k) (clD o n c c1 c2 r):=by kernel_rfl
theorem clB_round1:evTop (clC fi ge st ap out []) 60 noL 1 76 clB (clF o n c true k) ⟨3,[(0,.cells cs sz)]⟩ (takeC [56,55,54,2,6] [] K) =
  bif decide ((k:Int)<n) then
   bif decide (0≤(k:Int)) && decide ((k:Int)<n) && true then
    ge R cs (o+k*4) fun kind a1 a2 s1 s2 p=>
     bif kind == 4 then (floatToIntVal .f64 p .i64).bind fun m=>fi R m fun m=>forceN (floatOfInt .f64 m) fun q=>bif neF p q then K .ret (clF o n c true k++[(6,.int .i64 210)]) []
      else fi R (IntKind.i64.wrap (k+1)) fun i=>K .normal (clF o n c true i) []
     else fi R (IntKind.i64.wrap (k+1)) fun i=>K .normal (clF o n c true i) []
   else none
  else K (.exit 2) (clF o n c true k) []:=by kernel_rfl
theorem clB_round0:evTop (clC fi ge st ap out []) 60 noL 1 76 clB (clF o n c false k) ⟨3,[(0,.cells cs sz)]⟩ (takeC [56,55,54,2,6] [] K) =
  bif decide ((k:Int)<n) then
   bif decide (0≤(k:Int)) && decide ((k:Int)<n) && true then
    ge R cs (o+k*4) fun kind a1 a2 s1 s2 p=>fi R (IntKind.i64.wrap (k+1)) fun i=>K .normal (clF o n c false i) []
   else none
  else K (.exit 2) (clF o n c false k) []:=by kernel_rfl
abbrev clL:Hand:=orL 56 (slimL [56,55,54,2] [0] L2) (slimL [26,25,24,4,8,3,2] [2,1,0] L1)
theorem cl_top:evTop (clC fi ge st ap out [(85,saysV (.int .i64 0) ga)]) 60 (clL L1 L2) 1 76 (codeOf 38) (enumE 0 [flowV o n c,ciV c1 c2 r,.bool b]) ⟨1,[(0,.cells cs sz)]⟩ (takeC [6] [] K) =
  ga R [flowV o n c,ciV c1 c2 r] ⟨3,clD o n c c1 c2 r++[(0,.cells cs sz)]⟩ (bindF (fbF .mul r 4517110426252607488) fun t=>L1 R 1 76 clA (clE o n c t b 0) ⟨3,clD o n c c1 c2 r++[(0,.cells cs sz)]⟩
   (leaveE 0 (thenE (fun en H=>evTop (clC fi ge st ap out [(85,saysV (.int .i64 0) ga)]) 60 (clL L1 L2) 1 76 (seqN 4 (codeOf 38)) en H (takeC [6] [] K)) (takeC [6] [] K)))):=by kernel_rfl
theorem cl_mid:evTop (clC fi ge st ap out gl) 60 (clL L1 L2) 1 76 (seqN 4 (codeOf 38)) (clE o n c t b k) ⟨3,clD o n c c1 c2 r++[(0,.cells cs sz)]⟩ (takeC [6] [] K) =
  L2 R 1 76 clB (clF o n c b 0) ⟨3,[(0,.cells cs sz)]⟩ (leaveE 2 (thenE (fun en H=>evTop (clC fi ge st ap out gl) 60 (clL L1 L2) 1 76 (seqN 5 (codeOf 38)) en H (takeC [6] [] K)) (takeC [6] [] K))):=by kernel_rfl
theorem cl_end:evTop (clC fi ge st ap out gl) 60 (clL L1 L2) 1 76 (seqN 5 (codeOf 38)) (clF o n c b k) ⟨3,[(0,.cells cs sz)]⟩ (takeC [6] [] K)=K .ret [(6,.int .i64 0)] []:=by kernel_rfl
end
structure Sight (c1 c2 r:Nat) where
 t:Nat
 rp:Nat
 rm:Nat
 lw:El→Nat
 ht:fbF .mul r 4517110426252607488=some t
 hp:fbF .add r t=some rp
 hm:fbF .sub r t=some rm
def Seen (c1 c2:Nat) (lw:El→Nat) (x:El):Prop:=∀(R:Type) (k:Nat→Option R),outC subK lengthK R x.a1 x.a2 c1 c2 k=k (lw x)
def tooNear {c1 c2 r:Nat} (S:Sight c1 c2 r) (x:El):Bool:=x.kind != 1 && leF (S.lw x) S.rp && geF (S.lw x) S.rm
def WholeP (x:El):Prop:=x.kind=4→∃ m,floatToIntVal .f64 x.p .i64=some m∧neF x.p (floatOfInt .f64 m)=false
noncomputable def clR (gl:List (Nat×HSum)):Cx:=clC fiReal rEl rSt (rAp Tryz.prog) (outC subK lengthK) gl
theorem clR_ok {gl:List (Nat×HSum)} (hg:GsOk Tryz.prog gl):(clR gl).Ok:=cxM_ok no_meth (.cons k240 h240 .nil) no_ext hg .nil (mmOf_ok lds1)
theorem clA_loops:loopsIn clA=[]:=by kernel_rfl
theorem clB_loops:loopsIn clB=[]:=by kernel_rfl
theorem cl_body:Tryz.f38.body=some (codeOf 38):=by kernel_rfl
theorem bindF_val {R:Type} {o:Option Nat} {x:Nat} (h:o=some x) (k:Nat→Option R):bindF o k=k x:=by
 subst h; show forceN x k=k x
 rw[forceN_eq]
section
variable {cs:List Value} {sz o n c c1 c2 r:Nat} {b:Bool} {xs:List El} (S:Sight c1 c2 r)
theorem clA_step (hx:ElsAt cs o xs) (hn:xs.length<900000) {k:Nat} {x:El} (hk:xs[k]?=some x) (hs:Seen c1 c2 S.lw x) (he:tooNear S x=false):
  BaseOk Tryz.prog 1 76 ⟨3,clD o xs.length c c1 c2 r++[(0,.cells cs sz)]⟩ (clE o xs.length c S.t b k) ⟨3,clD o xs.length c c1 c2 r++[(0,.cells cs sz)]⟩ .normal (clE o xs.length c S.t b (k+1:Nat)) ⟨3,clD o xs.length c c1 c2 r++[(0,.cells cs sz)]⟩ (fun Q a w=>clA.wp Tryz.prog Q a w):=by
 have hkn:=(List.getElem?_eq_some_iff.1 hk).1; exact round_told (C:=clR []) (H0:=⟨3,clD o xs.length c c1 c2 r++[(0,.cells cs sz)]⟩) (e:=clE o xs.length c S.t b k) (H:=⟨3,clD o xs.length c c1 c2 r++[(0,.cells cs sz)]⟩) (n:=60) (ts:=[26,25,24,4,8,3,2,6]) (bo:=[2,1]) (bs:=[])
  (A:=clD o xs.length c c1 c2 r) (B:=[(0,.cells cs sz)]) (D:=clD o xs.length c c1 c2 r) (clR_ok .nil) zm_ok clA_loops
  (by
    unfold clR
    refine(clA_round fiReal _ _ _ _ _ cs sz o xs.length c k c1 c2 r S.t b _).trans ?_
    rw[decide_eq_true (show (k:Int)<xs.length by omega),cond_true,idx_ok,cond_true,rEl_at hx hk,hs]
    unfold tooNear at he
    rw[bindF_val S.hp]
    cases h1:x.kind != 1 with
    |false=>rw[cond_false,fiReal_fair,wrap_up (by omega)]
    |true=>
     rw[h1,Bool.true_and]at he
     rw[cond_true]
     cases h2:leF (S.lw x) S.rp with
     |false=>rw[cond_false,fiReal_fair,wrap_up (by omega)]
     |true=>
      rw[h2,Bool.true_and]at he
      rw[cond_true,bindF_val S.hm,he,cond_false,fiReal_fair,wrap_up (by omega)]) rfl
  rfl rfl rfl rfl rfl rfl
theorem clA_bad (hx:ElsAt cs o xs) (hn:xs.length<900000) {k:Nat} {x:El} (hk:xs[k]?=some x) (hs:Seen c1 c2 S.lw x) (he:tooNear S x=true):
  BaseOk Tryz.prog 1 76 ⟨3,clD o xs.length c c1 c2 r++[(0,.cells cs sz)]⟩ (clE o xs.length c S.t b k) ⟨3,clD o xs.length c c1 c2 r++[(0,.cells cs sz)]⟩ .ret (clE o xs.length c S.t b k++[(6,.int .i64 210)]) ⟨3,clD o xs.length c c1 c2 r++[(0,.cells cs sz)]⟩ (fun Q a w=>clA.wp Tryz.prog Q a w):=by
 have hkn:=(List.getElem?_eq_some_iff.1 hk).1; exact round_told (C:=clR []) (H0:=⟨3,clD o xs.length c c1 c2 r++[(0,.cells cs sz)]⟩) (e:=clE o xs.length c S.t b k) (H:=⟨3,clD o xs.length c c1 c2 r++[(0,.cells cs sz)]⟩) (n:=60) (ts:=[26,25,24,4,8,3,2,6]) (bo:=[2,1]) (bs:=[])
  (A:=clD o xs.length c c1 c2 r) (B:=[(0,.cells cs sz)]) (D:=clD o xs.length c c1 c2 r) (clR_ok .nil) zm_ok clA_loops
  (by
    unfold clR
    refine(clA_round fiReal _ _ _ _ _ cs sz o xs.length c k c1 c2 r S.t b _).trans ?_
    rw[decide_eq_true (show (k:Int)<xs.length by omega),cond_true,idx_ok,cond_true,rEl_at hx hk,hs]
    unfold tooNear at he; simp only[Bool.and_eq_true]at he
    rw[bindF_val S.hp,he.1.1,cond_true,he.1.2,cond_true,bindF_val S.hm,he.2,cond_true]) rfl
  rfl rfl rfl rfl rfl rfl
theorem clA_last:
  BaseOk Tryz.prog 1 76 ⟨3,clD o n c c1 c2 r++[(0,.cells cs sz)]⟩ (clE o n c S.t b n) ⟨3,clD o n c c1 c2 r++[(0,.cells cs sz)]⟩ (.exit 0) (clE o n c S.t b n) ⟨3,clD o n c c1 c2 r++[(0,.cells cs sz)]⟩ (fun Q a w=>clA.wp Tryz.prog Q a w):=by
 exact round_told (C:=clR []) (H0:=⟨3,clD o n c c1 c2 r++[(0,.cells cs sz)]⟩) (e:=clE o n c S.t b n) (H:=⟨3,clD o n c c1 c2 r++[(0,.cells cs sz)]⟩) (n:=60) (ts:=[26,25,24,4,8,3,2,6]) (bo:=[2,1]) (bs:=[])
  (A:=clD o n c c1 c2 r) (B:=[(0,.cells cs sz)]) (D:=clD o n c c1 c2 r) (clR_ok .nil) zm_ok clA_loops
  (by
    unfold clR
    refine(clA_round fiReal _ _ _ _ _ cs sz o n c n c1 c2 r S.t b _).trans ?_
    rw[decide_eq_false (by omega)];rfl) rfl
  rfl rfl rfl rfl rfl rfl
theorem clB_step (hx:ElsAt cs o xs) (hn:xs.length<900000) {k:Nat} {x:El} (hk:xs[k]?=some x) (hw:WholeP x):
  BaseOk Tryz.prog 1 76 ⟨3,[(0,.cells cs sz)]⟩ (clF o xs.length c b k) ⟨3,[(0,.cells cs sz)]⟩ .normal (clF o xs.length c b (k+1:Nat)) ⟨3,[(0,.cells cs sz)]⟩ (fun Q a w=>clB.wp Tryz.prog Q a w):=by
 have hkn:=(List.getElem?_eq_some_iff.1 hk).1; cases b with
 |true=>
  exact round_told (C:=clR []) (H0:=⟨3,[(0,.cells cs sz)]⟩) (e:=clF o xs.length c true k) (H:=⟨3,[(0,.cells cs sz)]⟩) (n:=60) (ts:=[56,55,54,2,6]) (bo:=[]) (bs:=[]) (A:=[]) (B:=[(0,.cells cs sz)]) (D:=[]) (clR_ok .nil) zm_ok clB_loops
   (by
     unfold clR
     refine(clB_round1 fiReal _ _ _ _ _ cs sz o xs.length c k _).trans ?_
     rw[decide_eq_true (show (k:Int)<xs.length by omega),cond_true,idx_ok,cond_true,rEl_at hx hk]
     cases h4:x.kind == 4 with
     |false=>rw[cond_false,fiReal_fair,wrap_up (by omega)]
     |true=>
      obtain⟨m,e1,e2⟩:=hw (by simpa using h4)
      rw[cond_true,e1,Option.bind_some,fiReal_fair,forceN_eq,e2,cond_false,fiReal_fair,wrap_up (by omega)]) rfl
   rfl rfl rfl rfl rfl rfl
 |false=>
  exact round_told (C:=clR []) (H0:=⟨3,[(0,.cells cs sz)]⟩) (e:=clF o xs.length c false k) (H:=⟨3,[(0,.cells cs sz)]⟩) (n:=60) (ts:=[56,55,54,2,6]) (bo:=[]) (bs:=[]) (A:=[]) (B:=[(0,.cells cs sz)]) (D:=[]) (clR_ok .nil) zm_ok clB_loops
   (by
     unfold clR
     refine(clB_round0 fiReal _ _ _ _ _ cs sz o xs.length c k _).trans ?_
     rw[decide_eq_true (show (k:Int)<xs.length by omega),cond_true,idx_ok,cond_true,rEl_at hx hk,fiReal_fair,wrap_up (by omega)]) rfl
   rfl rfl rfl rfl rfl rfl
theorem clB_last:
  BaseOk Tryz.prog 1 76 ⟨3,[(0,.cells cs sz)]⟩ (clF o n c b n) ⟨3,[(0,.cells cs sz)]⟩ (.exit 2) (clF o n c b n) ⟨3,[(0,.cells cs sz)]⟩ (fun Q a w=>clB.wp Tryz.prog Q a w):=by
 cases b with
 |true=>
  exact round_told (C:=clR []) (H0:=⟨3,[(0,.cells cs sz)]⟩) (e:=clF o n c true n) (H:=⟨3,[(0,.cells cs sz)]⟩) (n:=60) (ts:=[56,55,54,2,6]) (bo:=[]) (bs:=[]) (A:=[]) (B:=[(0,.cells cs sz)]) (D:=[]) (clR_ok .nil) zm_ok clB_loops
   (by
     unfold clR
     refine(clB_round1 fiReal _ _ _ _ _ cs sz o n c n _).trans ?_
     rw[decide_eq_false (by omega)];rfl) rfl rfl rfl rfl rfl rfl rfl
 |false=>
  exact round_told (C:=clR []) (H0:=⟨3,[(0,.cells cs sz)]⟩) (e:=clF o n c false n) (H:=⟨3,[(0,.cells cs sz)]⟩) (n:=60) (ts:=[56,55,54,2,6]) (bo:=[]) (bs:=[]) (A:=[]) (B:=[(0,.cells cs sz)]) (D:=[]) (clR_ok .nil) zm_ok clB_loops
   (by
     unfold clR
     refine(clB_round0 fiReal _ _ _ _ _ cs sz o n c n _).trans ?_
     rw[decide_eq_false (by omega)];rfl) rfl rfl rfl rfl rfl rfl rfl
theorem clean_call (hx:ElsAt cs o xs) (hn:xs.length<900000) (hs:∀ x∈xs,Seen c1 c2 S.lw x) (hw:∀ x∈xs,WholeP x) (hf:inns 0 cs=true)
  (ha:FlatCall Tryz.prog 85 [flowV o xs.length c,ciV c1 c2 r] ⟨1,[(0,.cells cs sz)]⟩ (.int .i64 0)):
  FlatCall Tryz.prog 38 [flowV o xs.length c,ciV c1 c2 r,.bool b] ⟨1,[(0,.cells cs sz)]⟩ (.int .i64 (bif xs.any (tooNear S) then 210 else 0)):=by
 have ha':FlatCall Tryz.prog 85 [flowV o xs.length c,ciV c1 c2 r] ⟨3,clD o xs.length c c1 c2 r++[(0,.cells cs sz)]⟩ (.int .i64 0):=FlatCall.one ha hf (by simp) rfl; have hgs:GsOk Tryz.prog [(85,saysV (.int .i64 0) (saysR Tryz.prog 85 (.int .i64 0)))]:=.cons (says_ok rfl) h239 .nil; have hB:BaseRounds Tryz.prog 1 76 ⟨3,[(0,.cells cs sz)]⟩ clB (clF o xs.length c b (0:Nat)) ⟨3,[(0,.cells cs sz)]⟩ (.exit 2) (clF o xs.length c b xs.length) ⟨3,[(0,.cells cs sz)]⟩:=
  base_count (E:=fun k:Nat=>clF o xs.length c b k) (H:=fun _=>⟨3,[(0,.cells cs sz)]⟩) xs.length 0 (fun k _ hk=>by
   have hk':=List.getElem?_eq_getElem (show k<xs.length by omega); exact clB_step hx hn hk' (hw _ (List.getElem_mem _))) (base_end (by intro h;cases h) (by simp only[Nat.zero_add];exact clB_last))
 have hB':=@base_loop _ _ _ _ _ _ _ _ _ hB; cases hany:xs.any (tooNear S) with
 |false=>
  have hA:BaseRounds Tryz.prog 1 76 ⟨3,clD o xs.length c c1 c2 r++[(0,.cells cs sz)]⟩ clA (clE o xs.length c S.t b (0:Nat)) ⟨3,clD o xs.length c c1 c2 r++[(0,.cells cs sz)]⟩ (.exit 0) (clE o xs.length c S.t b xs.length) ⟨3,clD o xs.length c c1 c2 r++[(0,.cells cs sz)]⟩:=
   base_count (E:=fun k:Nat=>clE o xs.length c S.t b k) (H:=fun _=>⟨3,clD o xs.length c c1 c2 r++[(0,.cells cs sz)]⟩) xs.length 0 (fun k _ hk=>by
    have hk':=List.getElem?_eq_getElem (show k<xs.length by omega); exact clA_step S hx hn hk' (hs _ (List.getElem_mem _)) (none_of hany k _ hk')) (base_end (by intro h;cases h) (by simp only[Nat.zero_add];exact clA_last S))
  have hA':=@base_loop _ _ _ _ _ _ _ _ _ hA; have h:=cl_top (told Tryz.prog (.exit 0) (clE o xs.length c S.t b xs.length) ⟨3,clD o xs.length c c1 c2 r++[(0,.cells cs sz)]⟩) (told Tryz.prog (.exit 2) (clF o xs.length c b xs.length) ⟨3,[(0,.cells cs sz)]⟩) fiReal (Ex×Env×Objs) rEl rSt (rAp Tryz.prog) (outC subK lengthK) (saysR Tryz.prog 85 (.int .i64 0)) cs sz o xs.length c c1 c2 r b fun ex e O=>some (ex,e,O)
  rw[says_eq ha',bindF_val S.ht]at h
  have h:=h.trans (told_eq @hA' _ _)
  rw[leave_then,cl_mid]at h
  have h:=h.trans (told_eq @hB' _ _)
  rw[leave_then,cl_end]at h
  exact fun_flat (C:=clR [(85,saysV (.int .i64 0) (saysR Tryz.prog 85 (.int .i64 0)))]) (args:=[flowV o xs.length c,ciV c1 c2 r,.bool b]) (H:=⟨1,[(0,.cells cs sz)]⟩) (clR_ok hgs) zm_ok Tryz.func38 cl_body (fun a _=>orL_ok (slimL_ok (told_ok _ _ _ _ a)) (slimL_ok (told_ok _ _ _ _ a))) (Nat.le_of_ble_eq_true rfl) h (.inr rfl) (vs:=[.int .i64 0]) rfl rfl
 |true=>
  obtain⟨j,x,e1,e2,e3⟩:=first_of hany
  have hj:=(List.getElem?_eq_some_iff.1 e1).1; have hA:BaseRounds Tryz.prog 1 76 ⟨3,clD o xs.length c c1 c2 r++[(0,.cells cs sz)]⟩ clA (clE o xs.length c S.t b (0:Nat)) ⟨3,clD o xs.length c c1 c2 r++[(0,.cells cs sz)]⟩ .ret (clE o xs.length c S.t b j++[(6,.int .i64 210)]) ⟨3,clD o xs.length c c1 c2 r++[(0,.cells cs sz)]⟩:=
   base_count (E:=fun k:Nat=>clE o xs.length c S.t b k) (H:=fun _=>⟨3,clD o xs.length c c1 c2 r++[(0,.cells cs sz)]⟩) j 0 (fun k _ hk=>by
    have hk':=List.getElem?_eq_getElem (show k<xs.length by omega); exact clA_step S hx hn hk' (hs _ (List.getElem_mem _)) (e3 k _ (by omega) hk')) (base_end (by intro h;cases h) (by simp only[Nat.zero_add];exact clA_bad S hx hn e1 (hs _ (List.mem_of_getElem? e1)) e2))
  have hA':=@base_loop _ _ _ _ _ _ _ _ _ hA; have h:=cl_top (told Tryz.prog .ret (clE o xs.length c S.t b j++[(6,.int .i64 210)]) ⟨3,clD o xs.length c c1 c2 r++[(0,.cells cs sz)]⟩) noL fiReal (Ex×Env×Objs) rEl rSt (rAp Tryz.prog) (outC subK lengthK) (saysR Tryz.prog 85 (.int .i64 0)) cs sz o xs.length c c1 c2 r b fun ex e O=>some (ex,e,O)
  rw[says_eq ha',bindF_val S.ht]at h
  have h:=h.trans (told_eq @hA' _ _); exact fun_flat (C:=clR [(85,saysV (.int .i64 0) (saysR Tryz.prog 85 (.int .i64 0)))]) (args:=[flowV o xs.length c,ciV c1 c2 r,.bool b]) (H:=⟨1,[(0,.cells cs sz)]⟩) (clR_ok hgs) zm_ok Tryz.func38 cl_body (fun a _=>orL_ok (slimL_ok noL_ok) (slimL_ok (told_ok _ _ _ _ a))) (Nat.le_of_ble_eq_true rfl) h (.inr rfl) (vs:=[.int .i64 210]) rfl rfl
end
noncomputable def suA:Code:=loopNo (codeOf 44) 0
noncomputable def suC (fi:Fi) (gc:GC) (st:St) (ap:Ap) (add:KCCC):Cx:=
 cxM fi Tryz.prog (fun _ _=>none) [(26,sCCC add)] [] [] [] (mmOf la0 [(32,gC gc)] st ap)
def suE (o n c x y:Nat) (k:Int):Env:=[(7,.int .i64 k),(6,.int .i64 n),(0,.slice (some ⟨0,o,none⟩) n c),(3,.complex .f64 x y)]
section
variable (L:Hand) (fi:Fi) (R:Type) (gc:GC) (st:St) (ap:Ap) (add:KCCC) (cs:List Value) (sz o n c k x y:Nat) (K:Ex→Env→Objs→Option R)
theorem su_round:evTop (suC fi gc st ap add) 60 noL 1 23 suA (suE o n c x y k) ⟨1,[(0,.cells cs sz)]⟩ (takeC [7,6,0,3] [] K) =
  bif decide ((k:Int)<n) then
   bif (k:Int) == 0 then
    bif true && decide ((0:Int)<n) && true then gc R cs (o+0*1) fun a b=>fi R (IntKind.i64.wrap (k+1)) fun i=>K .normal (suE o n c a b i) [] else none
   else bif decide (0≤(k:Int)) && decide ((k:Int)<n) && true then gc R cs (o+k*1) fun a b=>add R x y a b fun a b=>fi R (IntKind.i64.wrap (k+1)) fun i=>K .normal (suE o n c a b i) [] else none
  else K (.exit 0) (suE o n c x y k) []:=by kernel_rfl
theorem su_top:evTop (suC fi gc st ap add) 60 (slimL [7,6,0,3] [0] L) 1 23 (codeOf 44) (enumE 0 [.slice (some ⟨0,o,none⟩) n c]) ⟨1,[(0,.cells cs sz)]⟩ (takeC [2] [] K) =
  L R 1 23 suA (suE o n c 0 0 0) ⟨1,[(0,.cells cs sz)]⟩ (leaveE 0 (thenE (fun en H=>evTop (suC fi gc st ap add) 60 (slimL [7,6,0,3] [0] L) 1 23 (seqN 3 (codeOf 44)) en H (takeC [2] [] K)) (takeC [2] [] K))):=by kernel_rfl
theorem su_end:evTop (suC fi gc st ap add) 60 L 1 23 (seqN 3 (codeOf 44)) (suE o n c x y k) ⟨1,[(0,.cells cs sz)]⟩ (takeC [2] [] K)=K .ret [(2,.complex .f64 x y)] []:=by kernel_rfl
end
theorem su_body:Tryz.f44.body=some (codeOf 44):=by kernel_rfl
theorem h155:Has Tryz.prog 44:=⟨Tryz.f44,_,Tryz.func44,by kernel_rfl,rfl⟩
theorem su_loops:loopsIn suA=[]:=by kernel_rfl
theorem lds28:LdsOk Tryz.prog [(32,gC rC)]:=.cons (ldC_ok one28) .nil
noncomputable def suR:Cx:=suC fiReal rC rSt (rAp Tryz.prog) addK
theorem suR_ok:suR.Ok:=cxM_ok no_meth (.cons k84 h84 .nil) no_ext .nil .nil (mmOf_ok lds28)
def cxCells (zs:List (Nat×Nat)):List Value:=zs.map fun z=>.complex .f64 z.1 z.2
def CxAt (cs:List Value) (o:Nat) (zs:List (Nat×Nat)):Prop:=∀ i z,zs[i]?=some z→cs[o+i]?=some (.complex .f64 z.1 z.2)
theorem cxAt_cells (zs:List (Nat×Nat)):CxAt (cxCells zs) 0 zs:=fun i z h=>by
 unfold cxCells
 rw[Nat.zero_add,List.getElem?_map,h]
 rfl
theorem rC_at {cs:List Value} {o:Nat} {zs:List (Nat×Nat)} (h:CxAt cs o zs) {i:Nat} {z:Nat×Nat} (hz:zs[i]?=some z) (R:Type) (k:Nat→Nat→Option R):rC R cs (o+i*1) k=k z.1 z.2:=by
 unfold rC
 rw[Nat.mul_one,h i z hz]
def AddT (a b c:Nat×Nat):Prop:=∀(R:Type) (k:Nat→Nat→Option R),addK R a.1 a.2 b.1 b.2 k=k c.1 c.2
structure SumT (zs:List (Nat×Nat)) (f:Nat→Nat×Nat):Prop where
 zero:f 0=(0,0)
 one:∀ z,zs[0]?=some z→f 1=z
 step:∀ k z,0<k→zs[k]?=some z→AddT (f k) z (f (k+1))
section
variable {cs:List Value} {sz o c:Nat} {zs:List (Nat×Nat)} {f:Nat→Nat×Nat}
theorem su_step (hx:CxAt cs o zs) (hn:zs.length<900000) (hf:SumT zs f) {k:Nat} {z:Nat×Nat} (hk:zs[k]?=some z):
  BaseOk Tryz.prog 1 23 ⟨1,[(0,.cells cs sz)]⟩ (suE o zs.length c (f k).1 (f k).2 k) ⟨1,[(0,.cells cs sz)]⟩ .normal (suE o zs.length c (f (k+1)).1 (f (k+1)).2 (k+1:Nat)) ⟨1,[(0,.cells cs sz)]⟩ (fun Q a w=>suA.wp Tryz.prog Q a w):=by
 have hkn:=(List.getElem?_eq_some_iff.1 hk).1; exact round_told (C:=suR) (H0:=⟨1,[(0,.cells cs sz)]⟩) (e:=suE o zs.length c (f k).1 (f k).2 k) (H:=⟨1,[(0,.cells cs sz)]⟩) (n:=60) (ts:=[7,6,0,3]) (bo:=[]) (bs:=[]) (A:=[]) (B:=[(0,.cells cs sz)]) (D:=[]) (e1:=suE o zs.length c (f (k+1)).1 (f (k+1)).2 (k+1:Nat)) (O1:=[]) suR_ok zm_ok su_loops
  (by
    unfold suR
    refine(su_round fiReal _ _ _ _ _ cs sz o zs.length c k _ _ _).trans ?_
    rw[decide_eq_true (show (k:Int)<zs.length by omega),cond_true,idx_ok,decide_eq_true (show (0:Int)<zs.length by omega)]
    cases k with
    |zero=>
     rw[show (((0:Nat):Int) == 0)=true from rfl,cond_true,show (true && true && true)=true from rfl,cond_true,rC_at hx hk,fiReal_fair,wrap_up (by omega),show f (0+1)=z from hf.one z hk]
    |succ k=>
     rw[show (((k+1:Nat):Int) == 0)=false from by simp;omega,cond_false,cond_true,rC_at hx hk,hf.step (k+1) z (by omega) hk,fiReal_fair,wrap_up (by omega)]) rfl
  rfl rfl rfl rfl rfl rfl
theorem su_last {x y n:Nat}:
  BaseOk Tryz.prog 1 23 ⟨1,[(0,.cells cs sz)]⟩ (suE o n c x y n) ⟨1,[(0,.cells cs sz)]⟩ (.exit 0) (suE o n c x y n) ⟨1,[(0,.cells cs sz)]⟩ (fun Q a w=>suA.wp Tryz.prog Q a w):=by
 exact round_told (C:=suR) (H0:=⟨1,[(0,.cells cs sz)]⟩) (e:=suE o n c x y n) (H:=⟨1,[(0,.cells cs sz)]⟩) (n:=60) (ts:=[7,6,0,3]) (bo:=[]) (bs:=[]) (A:=[]) (B:=[(0,.cells cs sz)]) (D:=[]) suR_ok zm_ok su_loops
  (by
    unfold suR
    refine(su_round fiReal _ _ _ _ _ cs sz o n c n _ _ _).trans ?_
    rw[decide_eq_false (by omega)];rfl) rfl rfl rfl rfl rfl rfl rfl
theorem sum_call (hx:CxAt cs o zs) (hn:zs.length<900000) (hf:SumT zs f):FlatCall Tryz.prog 44 [.slice (some ⟨0,o,none⟩) zs.length c] ⟨1,[(0,.cells cs sz)]⟩ (.complex .f64 (f zs.length).1 (f zs.length).2):=by
 have hB:BaseRounds Tryz.prog 1 23 ⟨1,[(0,.cells cs sz)]⟩ suA (suE o zs.length c 0 0 (0:Nat)) ⟨1,[(0,.cells cs sz)]⟩ (.exit 0) (suE o zs.length c (f zs.length).1 (f zs.length).2 zs.length) ⟨1,[(0,.cells cs sz)]⟩:=by
  have:=base_count (P:=Tryz.prog) (lo:=1) (sz:=23) (a:=suA) (H0:=⟨1,[(0,.cells cs sz)]⟩) (E:=fun k:Nat=>suE o zs.length c (f k).1 (f k).2 k) (H:=fun _=>⟨1,[(0,.cells cs sz)]⟩) (ex:=.exit 0) (e':=suE o zs.length c (f zs.length).1 (f zs.length).2 zs.length) (H':=⟨1,[(0,.cells cs sz)]⟩) zs.length 0 (fun k _ hk=>by
   exact su_step hx hn hf (List.getElem?_eq_getElem (show k<zs.length by omega))) (base_end (by intro h;cases h) (by simp only[Nat.zero_add];exact su_last))
  simp only[hf.zero]at this
  exact this
 have hB':=@base_loop _ _ _ _ _ _ _ _ _ hB; have h:=su_top (told Tryz.prog (.exit 0) (suE o zs.length c (f zs.length).1 (f zs.length).2 zs.length) ⟨1,[(0,.cells cs sz)]⟩) fiReal (Ex×Env×Objs) rC rSt (rAp Tryz.prog) addK cs sz o zs.length c fun ex e O=>some (ex,e,O)
 have h:=h.trans (told_eq @hB' _ _)
 rw[leave_then,su_end]at h
 exact fun_flat (C:=suR) (args:=[.slice (some ⟨0,o,none⟩) zs.length c]) (H:=⟨1,[(0,.cells cs sz)]⟩) suR_ok zm_ok Tryz.func44 su_body (fun a _=>slimL_ok (told_ok _ _ _ _ a)) (Nat.le_of_ble_eq_true rfl) h (.inr rfl) (vs:=[.complex .f64 (f zs.length).1 (f zs.length).2]) rfl rfl
theorem flat_of_fn {f:FuncId} {args:List Value} {H:AH} {v:Value} (hfl:inns 0 args=true) (h:evFn (cxm Tryz.prog hot) 1000 f args some=some v):FlatCall Tryz.prog f args H v:=by
 obtain⟨u,h1,_,h2⟩:=evFn_sound (cxm_ok hot_ok) zm_ok h hfl
 cases h1
 intro ρ w args' hi ha
 rw[ha.flat_eq hfl]
 exact h2 w
theorem sum_none {H:AH}:FlatCall Tryz.prog 44 [.slice none 0 0] H (.complex .f64 0 0):=flat_of_fn rfl (by kernel_rfl)
end
abbrev KSi:=∀ R:Type,Int→Nat→Nat→Nat→Nat→Nat→(Int→Option R)→Option R
def sSi (g:KSi):Sum:=fun R args k=>match args with
 |[.agg ⟨[.int .u8 kind,.complex .f64 a1 a2,.complex .f64 s1 s2,.float .f64 p]⟩,.agg ⟨[.complex .f64 c1 c2,.float .f64 r]⟩]=>g R kind a1 a2 c1 c2 r fun v=>k (.int .i64 v)
 |_=>none
def siC (out:KOut):KSi:=fun R kind a1 a2 c1 c2 r k=>out R a1 a2 c1 c2 fun l=>bif kind == 1 then k 0 else bif ltF l r then k (-1) else k 1
theorem z_si (out:KOut) (R:Type) (kind:Int) (a1 a2 s1 s2 p c1 c2 r:Nat) (k:Value→Option R):
  evFn (cx Tryz.prog [(86,sOut out)]) 60 41 [.agg ⟨[.int .u8 kind,.complex .f64 a1 a2,.complex .f64 s1 s2,.float .f64 p]⟩,.agg ⟨[.complex .f64 c1 c2,.float .f64 r]⟩] k=siC out R kind a1 a2 c1 c2 r fun v=>k (.int .i64 v):=by kernel_rfl
theorem h195:Has Tryz.prog 41:=⟨Tryz.f41,_,Tryz.func41,by kernel_rfl,rfl⟩
theorem k195:SumOk Tryz.prog 41 (sSi (siC (outC subK lengthK))):=sumOk_of zm_ok (.cons k240 h240 .nil) (n:=60) fun R args k r hr=>by
 unfold sSi at hr;split at hr
 ·exact⟨rfl,(z_si (outC subK lengthK) R _ _ _ _ _ _ _ _ _ k).trans hr⟩
 ·cases hr
end Go.Vm
