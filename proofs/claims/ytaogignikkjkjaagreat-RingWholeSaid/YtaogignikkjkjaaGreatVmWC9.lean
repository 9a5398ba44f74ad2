/- A part of the evaluator and of what is told of floats; no conditions. -/
import Derived.Test.YtaogignikkjkjaaGreatVmWC1
import Derived.Test.YtaogignikkjkjaaGreatRows
import Derived.ProofKit
import Derived.Carry
import Derived.JoinedCond
set_option linter.unusedVariables false
set_option maxRecDepth 1000000
set_option linter.unusedSimpArgs false
set_option linter.unusedSectionVars false
namespace Go.Proofs.YtaogignikkjkjaaGreat
open Go.ChangeShapes Go.WideShapes Go.ChangeAt Go.RowKit Go.Vm Go.Deep
theorem own3_:ownKnob Tryz.prog.godebug=none:=by kernel_rfl
theorem laid3_:laidOutB Tryz.prog=true:=by kernel_rfl
theorem whole_contract (hM:∀(hs:List Th) (x y r n:Int) (S:Sight (fI x) (fI y) (fI r)),Vm.Good S hs n→RwMain (els hs) (fI x) (fI y) (fI r) n) (hN:∀ x y r n:Int,rwSize 0 x y r n=true→RwNil (fI x) (fI y) (fI r) n)
  (H:Type) (enc:TypeId×Value→H) (W:World) (base:Nat) (args:Array Value) (ds gs:List (DataW H)) (before:List MemPlace)
  (hval0:∀(j:Nat) t v,Tryz.f3.params[j]?=some t→args[j]?=some v→Value.okWide Tryz.prog W .any base t v)
  (hW:DataW.Whole enc Tryz.prog Tryz.f3.params.toList Rows.ringWholeSpec.vars false W args.toList ds gs before):
  Calls Tryz.prog 3 args W fun e W'=>∃ v,e=.returned v∧Rows.ringWholeSpec.post enc Tryz.prog Tryz.f3 false true false false W args v W':=by
 have hval:∀(j:Nat) t v,Tryz.f3.params[j]?=some t→args[j]?=some v→Value.okWide Tryz.prog W .any base t v:=hval0; have hW':=hW
 obtain⟨p,q,hA0,hV,rfl,hfz,_⟩:=hW
 have hA:DataW.TrodAll enc Tryz.prog W 0 (fun _=>true) true Tryz.f3.params.toList args.toList ds p:=hA0
 rw[Tryz.params3]at hA hval
 obtain⟨v0,v1,v2,v3,d0,d1,d2,d3,p0,p1,p2,p3,rfl,rfl,rfl,h0,h1,h2,h3⟩:=trodAll_four hA
 obtain⟨rfl,rfl⟩:=trodVars_none hV
 have h0k:=h0; have h1k:=h1; have h2k:=h2; have h3k:=h3
 obtain⟨r,rfl,rfl,rfl,hr⟩:=open_int Tryz.underlying23 (hval 2 23 v2 rfl rfl) h2
 obtain⟨n,rfl,rfl,rfl,hn⟩:=open_int Tryz.underlying3 (hval 3 3 v3 rfl rfl) h3
 obtain⟨ca,rfl,hca⟩:=okWide_struct Tryz.underlying25 (hval 1 25 v1 rfl rfl)
 obtain⟨fuel1,hf1⟩:=h1
 obtain⟨x,y,e1,e2⟩:=gauss_open hf1
 have ep1:p1=[]:=e2; subst ep1; have eca:ca=#[.int .i16 x,.int .i16 y]:=by
  obtain⟨l⟩:=ca
  simp only[Value.cells]at e1
  have e1':l=[.int .i16 x,.int .i16 y]:=e1
  rw[e1']
 subst eca; clear hA0 hval0; simp only[List.append_nil]at hW' hfz; have hlt:∀ z∈p0,z.block<W.heap.size:=fun z hz=>by simpa using hW'.lt z hz
 have fin:∀(W':World),Below W.heap.size W W'→Rows.ringWholeSpec.post enc Tryz.prog Tryz.f3 false true false false W #[v0,.agg #[.int .i16 x,.int .i16 y],.int .i16 r,.int .i64 n] (.bool true) W':=by
  intro W' hb
  refine⟨_,_,_,[],p0++([]++([]++[])),[],hW',?_,trodAll_mk4 (Below.trod laid3_ (by kernel_rfl) (of_decide_eq_true (by kernel_rfl)) h0k hb hlt) (Below.trod laid3_ (by kernel_rfl) (of_decide_eq_true (by kernel_rfl)) h1k hb (fun z hz=>by cases hz)) (Below.trod laid3_ (by kernel_rfl) (of_decide_eq_true (by kernel_rfl)) h2k hb (fun z hz=>by cases hz)) (Below.trod laid3_ (by kernel_rfl) (of_decide_eq_true (by kernel_rfl)) h3k hb (fun z hz=>by cases hz)),rfl,hb.frame _,fun h=>by cases h⟩
  exact trodAll_mk1 (shut_bool Tryz.underlying4 true)
 obtain⟨a0,len0,cap0,hv0⟩:=okWide_slice Tryz.underlying22 (hval 0 22 v0 rfl rfl)
 obtain⟨fuel,hf⟩:=h0
 rcases open_slice Tryz.underlying22 hf with ⟨hcs,hx⟩|⟨a,len,cap,m,k,D,Pl,hcs,_,hlc,_,hm,hx,hel⟩
 ·have ev:v0=.slice none 0 0:=by
   subst hv0; simpa[Value.cells] using hcs
  subst ev; have hc:=whole_nil (v:=nilS) (x:=x) (y:=y) (r:=r) (n:=n) (.inl rfl) (hN x y r n)
  refine(hc (fun _=>none) W _ ⟨fun _ _=>rfl,fun k o hm=>by simp at hm,fun k o o' hm=>by simp at hm,⟨fun k o hm=>by simp at hm,fun k o k' o' s s' hm=>by simp at hm⟩⟩ (.cons (.nilSlice 0 0) (.cons (.agg (.cons (.int _ _) (.cons (.int _ _) .nil))) (.cons (.int _ _) (.cons (.int _ _) .nil))))).mono fun e W' ⟨he,hb⟩=>?_
  subst he
  exact⟨_,rfl,fin W' hb⟩
 ·have ev:v0=.slice (some a) len cap:=by
   subst hv0; simpa[Value.cells] using hcs
  subst ev; have hspot:a.spot=none:=by
   have:=hval 0 22 _ rfl rfl
   simp only[Value.okWide,Tryz.underlying22,Cell.okWide,Cell.ok]at this
   exact this.2.2.2.1
  have ea:(⟨a.block,a.off+0,none⟩:Addr)=a:=by
   cases a
   simp only at hspot; subst hspot; rfl
  have hm':m=cap:=by simpa using hm
  have hsl:∀{ρ:Map},ρ 0=some ⟨a.block,a.off,0⟩→VRels ρ [.slice (some ⟨0,0,none⟩) len cap,.agg ⟨[.int .i16 x,.int .i16 y]⟩,.int .i16 r,.int .i64 n] [.slice (some a) len cap,.agg #[.int .i16 x,.int .i16 y],.int .i16 r,.int .i64 n]:=fun{ρ} hρ=>by
   have:=VRel.slice (ρ:=ρ) (k:=0) (o:=0) (n:=len) (c:=cap) (s:=⟨a.block,a.off,0⟩) hρ
   simp only[Nat.add_zero]at this
   rw[Nat.add_zero]at ea
   rw[ea]at this
   exact .cons this (.cons (.agg (.cons (.int _ _) (.cons (.int _ _) .nil))) (.cons (.int _ _) (.cons (.int _ _) .nil)))
  have bare:FlatCall Tryz.prog 3 (rwArgs (.slice (some ⟨0,0,none⟩) len cap) x y r n) ⟨1,[]⟩ (.bool true)→Calls Tryz.prog 3 #[.slice (some a) len cap,.agg #[.int .i16 x,.int .i16 y],.int .i16 r,.int .i64 n] W fun e W'=>∃ v,e=.returned v∧Rows.ringWholeSpec.post enc Tryz.prog Tryz.f3 false true false false W #[.slice (some a) len cap,.agg #[.int .i16 x,.int .i16 y],.int .i16 r,.int .i64 n] v W':=fun hc=>by
   refine(hc (oneMap ⟨a.block,a.off,0⟩) W _ ⟨fun k hk=>?_,fun k o hm=>by simp at hm,fun k o o' hm=>by simp at hm,⟨fun k o hm=>by simp at hm,fun k o k' o' s s' hm=>by simp at hm⟩⟩ (hsl rfl)).mono fun e W' ⟨he,hb⟩=>?_
   ·have hk1:1≤k:=hk; unfold oneMap; cases hb:Nat.beq k 0 with
    |true=>have:=Nat.eq_of_beq_eq_true hb;omega
    |false=>rfl
   ·subst he
    exact⟨_,rfl,fin W' hb⟩
  cases hsz:rwSize len x y r n with
  |false=>exact bare (whole_big hsz)
  |true=>
  rcases Nat.eq_zero_or_pos len with hz|hpos
  ·subst hz; exact bare (whole_nil (.inr ⟨cap,rfl⟩) (hN x y r n))
  ·obtain⟨T,hT⟩:=choose_lt (α:=Th) (n:=len) (p:=fun i t=>W.cells? 0 (a.add (i*6)) 6=some t.cs∧t.p.natAbs≤1000) (fun i hi=>by
    obtain⟨cs',g1,g2⟩:=hel i (by omega)
    obtain⟨t,b,c,d,e,k1,k2,k3⟩:=thing_open g2
    subst k1
    exact⟨t,g1,k2⟩)
   have hp0:p0=MemPlace.row a (m*Tryz.prog.cellsOf 76)++(List.range m).flatMap Pl:=congrArg Prod.snd hx
   obtain⟨cs,c1,c2,c3⟩:=things_at (hs:=T) hspot hpos (fun i hi=>(hT i hi).1) (fun j hj=>by
    refine hfz a.block (a.off+j) ?_
    rw[hp0]
    refine List.mem_append_left _ ?_
    unfold MemPlace.row; refine List.mem_map.2 ⟨j,List.mem_range.2 ?_,rfl⟩; have h6:Tryz.prog.cellsOf 76=6:=rfl
    rw[h6]
    have:=Nat.mul_le_mul_right 6 (show len≤m by omega)
    omega)
   have hlen:((List.range len).map T).length=len:=by simp
   have hc:=whole_call (c:=cap) (sz:=6) (x:=x) (y:=y) (r:=r) (n:=n) c1 (by omega) c2 (fun t ht=>by
    obtain⟨i,hi,rfl⟩:=List.mem_map.1 ht
    exact(hT i (List.mem_range.1 hi)).2) (by rw[hlen];exact hsz) (fun S g=>hM _ x y r n S g)
   rw[hlen]at hc
   refine(hc (oneMap ⟨a.block,a.off,0⟩) W _ c3 (hsl rfl)).mono fun e W' ⟨he,hb⟩=>?_
   subst he
   exact⟨_,rfl,fin W' hb⟩
theorem ringWhole_lifted (hM:∀(hs:List Th) (x y r n:Int) (S:Sight (fI x) (fI y) (fI r)),Vm.Good S hs n→RwMain (els hs) (fI x) (fI y) (fI r) n) (hN:∀ x y r n:Int,rwSize 0 x y r n=true→RwNil (fI x) (fI y) (fI r) n) (os:Os) (started:os.Started) (H:Type) (enc:TypeId×Value→H):
  ReturnsInHanded {} Tryz.checked os 3 .any (Rows.ringWholeSpec.pre6 enc Tryz.prog Tryz.f3 Rows.ringWholeRow.domain false) (Rows.ringWholeSpec.post enc Tryz.prog Tryz.f3 false true false false):=by
 refine returnsInHanded_of_change (C:=Tryz.checked) own3_ started (by kernel_rfl) Tryz.func3
  (ChangeSpec.witness6 (enc:=enc) (C:=Tryz.checked) false ⟨#[],#[.slice none 0 0,.agg #[.int .i16 0,.int .i16 0],.int .i16 0,.int .i64 0],[]⟩ 8 (by kernel_rfl) (by kernel_rfl) (by kernel_rfl) (by kernel_rfl)) ?_
 intro W base args ds gs before hval hW _ _; exact whole_contract hM hN H enc W base args ds gs before hval hW
theorem ringWhole_of (hM:∀(hs:List Th) (x y r n:Int) (S:Sight (fI x) (fI y) (fI r)),Vm.Good S hs n→RwMain (els hs) (fI x) (fI y) (fI r) n) (hN:∀ x y r n:Int,rwSize 0 x y r n=true→RwNil (fI x) (fI y) (fI r) n):Rows.RingWholeSaid:=
 OpenClaim.holds_of_wide 3 Tryz.f3 rfl rfl rfl rfl rfl rfl rfl ⟨rfl,rfl,rfl,rfl,rfl⟩ rfl rfl rfl rfl rfl (by kernel_rfl) Tryz.func3 (by kernel_rfl)
  (of_decide_eq_true (by kernel_rfl)) (by unfold Func.isWrapper;first|(rw[if_pos (by decide +kernel)];kernel_rfl)|(rw[if_neg (by decide +kernel)];exact⟨rfl,rfl⟩))
  (fun os started H enc _=>ringWhole_lifted hM hN os started H enc)
end Go.Proofs.YtaogignikkjkjaaGreat
