/- A part of the evaluator and of what is told of floats; no conditions. -/
import Derived.Test.YtaogignikkjkjaaGreatVmX1
import Derived.Test.YtaogignikkjkjaaGreatVmP26
import Derived.Test.YtaogignikkjkjaaGreatVmZX
import Derived.Test.YtaogignikkjkjaaGreatVmX0
import Derived.Test.YtaogignikkjkjaaGreatVmRA7
set_option linter.unusedSimpArgs false
set_option linter.unusedVariables false
set_option maxRecDepth 1000000
set_option linter.unusedSectionVars false
namespace Go.Vm
def stI (Z:Rat):List (Int×Int)→Rat→Rat→Rat×Rat
 |[],s,c=>(s,c)
 |(a,b)::l,s,c=>stI Z l (1-Z/(a:Rat)*s) (1-Z/(b:Rat)*c)
def stL:List (Int×Int):=[(342,306),(272,240),(210,182),(156,132),(110,90),(72,56),(42,30),(20,12),(6,2)]
theorem tm_two (y:Rat) (m:Nat) {a:Rat} (h:((m+1:Nat):Rat)*((m+2:Nat):Rat)=a):tm y (m+2)=tm y m*(y*y/a):=by
 have h1:=tm_succ y m; have h2:=tm_succ y (m+1); have n1:=nat_ne (m:=m); have n2:=nat_ne (m:=m+1); have hn:a≠0:=by
  intro e
  rw[e]at h
  rcases Rat.mul_eq_zero.1 h with g|g
  ·exact n1 g
  ·exact n2 g
 have hc:=Rat.mul_inv_cancel _ hn
 rw[Rat.div_def]
 have h3:a*tm y (m+2)=tm y m*(y*y):=by
  rw[← h]
  generalize ((m+1:Nat):Rat)=p at *
  change ((m+1+1:Nat):Rat)*tm y (m+2)=_ at h2; generalize hq:((m+1+1:Nat):Rat)=q at *
  change p*q*tm y (m+2)=_; grind
 generalize a⁻¹=q at *
 grind
theorem sn_front (y:Rat):sm (fun m=>iI m*tm y m) 0 20=tm y 1-tm y 3+tm y 5-tm y 7+tm y 9-tm y 11+tm y 13-tm y 15+tm y 17-tm y 19:=by
 simp only[sm,Nat.zero_add,Nat.reduceAdd,show iI 0=0 from rfl,show iI 1=1 from rfl,show iI 2=0 from rfl,show iI 3=-1 from rfl,show iI 4=0 from rfl,show iI 5=1 from rfl,show iI 6=0 from rfl,show iI 7=-1 from rfl,show iI 8=0 from rfl,show iI 9=1 from rfl,show iI 10=0 from rfl,show iI 11=-1 from rfl,show iI 12=0 from rfl,show iI 13=1 from rfl,show iI 14=0 from rfl,show iI 15=-1 from rfl,show iI 16=0 from rfl,show iI 17=1 from rfl,show iI 18=0 from rfl,show iI 19=-1 from rfl]
 grind
theorem cs_front (y:Rat):sm (fun m=>reI m*tm y m) 0 20=tm y 0-tm y 2+tm y 4-tm y 6+tm y 8-tm y 10+tm y 12-tm y 14+tm y 16-tm y 18:=by
 simp only[sm,Nat.zero_add,Nat.reduceAdd,show reI 0=1 from rfl,show reI 1=0 from rfl,show reI 2=-1 from rfl,show reI 3=0 from rfl,show reI 4=1 from rfl,show reI 5=0 from rfl,show reI 6=-1 from rfl,show reI 7=0 from rfl,show reI 8=1 from rfl,show reI 9=0 from rfl,show reI 10=-1 from rfl,show reI 11=0 from rfl,show reI 12=1 from rfl,show reI 13=0 from rfl,show reI 14=-1 from rfl,show reI 15=0 from rfl,show reI 16=1 from rfl,show reI 17=0 from rfl,show reI 18=-1 from rfl,show reI 19=0 from rfl]
 grind
theorem tm_one (y:Rat):tm y 1=y:=by simp only[tm];rw[Rat.div_def];norm_cast;grind
theorem horner_sn (y:Rat):y*(stI (y*y) stL 1 1).1=sm (fun m=>iI m*tm y m) 0 20:=by
 rw[sn_front,tm_two y 17 (a:=342) (by norm_cast),tm_two y 15 (a:=272) (by norm_cast),tm_two y 13 (a:=210) (by norm_cast),tm_two y 11 (a:=156) (by norm_cast),tm_two y 9 (a:=110) (by norm_cast),tm_two y 7 (a:=72) (by norm_cast),tm_two y 5 (a:=42) (by norm_cast),tm_two y 3 (a:=20) (by norm_cast),tm_two y 1 (a:=6) (by norm_cast),tm_one]
 simp only[stI,stL]
 simp only[show ((342:Int):Rat)=342 by norm_cast,show ((272:Int):Rat)=272 by norm_cast,show ((210:Int):Rat)=210 by norm_cast,show ((156:Int):Rat)=156 by norm_cast,show ((110:Int):Rat)=110 by norm_cast,show ((72:Int):Rat)=72 by norm_cast,show ((42:Int):Rat)=42 by norm_cast,show ((20:Int):Rat)=20 by norm_cast,show ((6:Int):Rat)=6 by norm_cast]
 generalize y*y/342=a; generalize y*y/272=b; generalize y*y/210=c; generalize y*y/156=d; generalize y*y/110=e; generalize y*y/72=f; generalize y*y/42=g; generalize y*y/20=h; generalize y*y/6=i; grind
theorem horner_cs (y:Rat):(stI (y*y) stL 1 1).2=sm (fun m=>reI m*tm y m) 0 20:=by
 rw[cs_front,tm_two y 16 (a:=306) (by norm_cast),tm_two y 14 (a:=240) (by norm_cast),tm_two y 12 (a:=182) (by norm_cast),tm_two y 10 (a:=132) (by norm_cast),tm_two y 8 (a:=90) (by norm_cast),tm_two y 6 (a:=56) (by norm_cast),tm_two y 4 (a:=30) (by norm_cast),tm_two y 2 (a:=12) (by norm_cast),tm_two y 0 (a:=2) (by norm_cast),show tm y 0=1 from rfl]
 simp only[stI,stL]
 simp only[show ((306:Int):Rat)=306 by norm_cast,show ((240:Int):Rat)=240 by norm_cast,show ((182:Int):Rat)=182 by norm_cast,show ((132:Int):Rat)=132 by norm_cast,show ((90:Int):Rat)=90 by norm_cast,show ((56:Int):Rat)=56 by norm_cast,show ((30:Int):Rat)=30 by norm_cast,show ((12:Int):Rat)=12 by norm_cast,show ((2:Int):Rat)=2 by norm_cast]
 generalize y*y/306=a; generalize y*y/240=b; generalize y*y/182=c; generalize y*y/132=d; generalize y*y/90=e; generalize y*y/56=f; generalize y*y/30=g; generalize y*y/12=h; generalize y*y/2=i; grind
theorem rest20:sm (tm (4/5)) 20 44≤1/100000000000000000000:=by decide +kernel
theorem series_near {y:Rat} (h:y.abs≤4/5):(y*(stI (y*y) stL 1 1).1-snN y).abs≤eps*(1/10000)∧((stI (y*y) stL 1 1).2-csN y).abs≤eps*(1/10000):=by
 have r:sm (tm y.abs) 20 44≤eps*(1/10000):=by
  refine Rat.le_trans (sm_mono _ _ _ _ fun m _ _=>tm_mono (abs_nonneg y) h m) (Rat.le_trans rest20 ?_)
  rw[eps_eq]
  decide +kernel
 have a1:(sm (fun m=>reI m*tm y m) 20 44).abs≤sm (tm y.abs) 20 44:=sm_abs _ _ fun m _ _=>(term_le y m).1
 have a2:(sm (fun m=>iI m*tm y m) 20 44).abs≤sm (tm y.abs) 20 44:=sm_abs _ _ fun m _ _=>(term_le y m).2
 have e1:csN y=sm (fun m=>reI m*tm y m) 0 20+sm (fun m=>reI m*tm y m) 20 44:=sm_split _ 20 44 0; have e2:snN y=sm (fun m=>iI m*tm y m) 0 20+sm (fun m=>iI m*tm y m) 20 44:=sm_split _ 20 44 0
 rw[horner_sn,horner_cs,e1,e2]
 generalize sm (fun m=>reI m*tm y m) 20 44=p at *
 generalize sm (fun m=>iI m*tm y m) 20 44=q at *
 generalize sm (fun m=>reI m*tm y m) 0 20=s at *
 generalize sm (fun m=>iI m*tm y m) 0 20=t at *
 rw[show t-(t+q)=-q by grind,show s-(s+p)=-p by grind,abs_neg,abs_neg]
 exact⟨by grind,by grind⟩
open Ieee
theorem abs_inW {x b:Rat} (h:-b≤x) (g:x≤b):x.abs≤b:=abs_le_iff.2 ⟨h,g⟩
theorem cut_nearW (s:Bool) (m:Nat) (i:Int):(dv s (Toward.even.cut s (m <<< i.toNat) (-i).toNat) 0-dv s m i).abs≤1/2:=by
 have hs:=cut_spec s (m <<< i.toNat) (-i).toNat
 obtain⟨s1,s2,_,_⟩:=hs
 generalize Toward.even.cut s (m <<< i.toNat) (-i).toNat=c at *
 have e1:((m <<< i.toNat:Nat):Rat)=(m:Rat)*(2:Rat)^i*((2^(-i).toNat:Nat):Rat):=by
  rw[← p2_nat,Nat.shiftLeft_eq,Rat.mul_assoc,← p2_add]
  push_cast
  rw[show i+((-i).toNat:Int)=((i.toNat:Nat):Int) by omega,p2_nat]
  push_cast; rfl
 have hP:(0:Rat)<((2^(-i).toNat:Nat):Rat):=by rw[← p2_nat];exact p2_pos _
 generalize m <<< i.toNat=n at *
 generalize (2^(-i).toNat:Nat)=P at *
 have g1:(2:Rat)*((c:Rat)*(P:Rat))≤2*(n:Rat)+(P:Rat):=by exact_mod_cast s1
 have g2:(2:Rat)*(n:Rat)≤2*((c:Rat)*(P:Rat))+(P:Rat):=by exact_mod_cast s2
 have dc:dv s c 0=sg s*(c:Rat):=by unfold dv;rw[show (2:Rat)^(0:Int)=1 by simp,Rat.mul_one]
 have dm:dv s m i=sg s*((m:Rat)*(2:Rat)^i):=rfl
 rw[dc,dm]
 generalize (m:Rat)*(2:Rat)^i=M at *
 rw[e1]at g1 g2
 have k1:(c:Rat)≤M+1/2:=Rat.le_of_mul_le_mul_right (c:=(P:Rat)) (by grind) hP; have k2:M≤(c:Rat)+1/2:=Rat.le_of_mul_le_mul_right (c:=(P:Rat)) (by grind) hP; have k3:((c:Rat)-M).abs≤1/2:=abs_inW (by grind) (by grind); cases s
 ·unfold sg;rw[if_neg (by decide),Rat.one_mul,Rat.one_mul];exact k3
 ·unfold sg;rw[if_pos rfl,show (-1:Rat)*(c:Rat) - -1*M=-((c:Rat)-M) by grind,abs_neg];exact k3
theorem roundK_nearW {w:Nat} {x:Rat} {B:Nat} (h:Is w x) (hx:x.abs≤((B:Nat):Rat)) (hB:B≤2^50):
  ∃(r:Nat) (N:Int),Is r N∧N.natAbs≤B+1∧((N:Rat)-x).abs≤1/2∧∀(R:Type) (k:Nat→Option R),roundK .even R w k=k r:=by
 obtain⟨hw,s,m,i,h1,rfl⟩:=h
 have hc:=cut_bound hx; have hn:=cut_nearW s m i; generalize hcc:Toward.even.cut s (m <<< i.toNat) (-i).toNat=c at hc hn; have hdv:dv s c 0=(((if s then -(c:Int) else (c:Int)):Int):Rat):=by
  unfold dv sg
  rw[show (2:Rat)^(0:Int)=1 by simp]
  have e:((c:Nat):Rat)=(((c:Int)):Rat):=by norm_cast
  cases s
  ·simp only[Bool.false_eq_true,if_false]
   rw[e];grind
  ·simp only[if_true]
   push_cast; grind
 have hN:(if s then -(c:Int) else (c:Int)).natAbs≤B+1:=by split<;>omega
 obtain⟨z,z1,z2⟩:=number_is (s:=s) (m:=c) (i:=0) (by rw[hdv];exact int_abs_lt (by omega))
 have hz:z=(((if s then -(c:Int) else (c:Int)):Int):Rat):=by
  rw[hdv]at z2
  exact rnd_int (by omega) z2
 rw[hz]at z1
 rw[hdv]at hn
 refine⟨_,_,z1,hN,hn,fun R k=>?_⟩
 unfold roundK
 rw[h1]
 simp only[Datum.integral,hcc]
 rw[forceN_eq]
theorem word_lit {w m n:Nat} {x:Rat} (hw:w<2^64) (h:double.read w=.number false m (-(n:Int))) (hx:(m:Rat)=x*((2^n:Nat):Rat)):Is w x:=by
 refine⟨hw,false,m,_,h,?_⟩
 unfold dv sg
 rw[if_neg (by decide),Rat.one_mul,hx,← p2_nat,Rat.mul_assoc,p2_cancel,Rat.mul_one]
theorem is_c1W:Is 4603909380684499075 (5734161139222659/9007199254740992):=word_lit (m:=5734161139222659) (n:=53) (by decide) (by decide) (by rw[show (2^53:Nat)=9007199254740992 by decide];norm_cast;grind)
theorem is_p1W:Is 4609753056924401664 (1686629713/1073741824):=word_lit (m:=7074237751754752) (n:=52) (by decide) (by decide) (by rw[show (2^52:Nat)=4503599627370496 by decide];norm_cast;grind)
theorem div_le_of {x y a:Rat} (ha:2≤a) (h:x≤y):x/a≤y/a:=by
 rw[Rat.div_def,Rat.div_def]
 exact Rat.mul_le_mul_of_nonneg_right h (Rat.le_of_lt (Rat.inv_pos.2 (by grind)))
theorem div_halfW {x a:Rat} (hx:0≤x) (ha:2≤a):x/a≤x/2:=by
 have h1:=Rat.mul_inv_cancel a (by grind); have h2:0<a⁻¹:=Rat.inv_pos.2 (by grind); have h3:a⁻¹≤1/2:=by
  have:=Rat.mul_le_mul_of_nonneg_right ha (Rat.le_of_lt h2)
  grind
 rw[Rat.div_def,Rat.div_def]
 have:=Rat.mul_le_mul_of_nonneg_left h3 hx
 grind
theorem div_nonneg' {x a:Rat} (hx:0≤x) (ha:2≤a):0≤x/a:=by
 rw[Rat.div_def]
 exact Rat.mul_nonneg hx (Rat.le_of_lt (Rat.inv_pos.2 (by grind)))
theorem big200_lo2:(1000:Rat)≤big200:=by
 have h:=p2_le (show (20:Int)≤200 by decide); have e:(2:Rat)^(20:Int)=1048576:=by rw[show (20:Int)=((20:Nat):Int) by rfl,p2_nat];rfl
 unfold big200; grind
theorem one_step {z a s:Nat} {Z Y A S σ:Rat} (hz:Is z Z) (hY0:0≤Y) (hY:Y≤65/100) (hZ:(Z-Y).abs≤eps/4) (ha:Is a A) (hA:2≤A) (hs:Is s S) (h0:0≤σ) (h1:σ≤1) (hd:(S-σ).abs≤eps):
  ∃ q p r R,fbF .quo z a=some q∧fbF .mul q s=some p∧fbF .sub 4607182418800017408 p=some r∧Is r R∧(R-(1-Y/A*σ)).abs≤eps∧0≤1-Y/A*σ∧1-Y/A*σ≤1:=by
 have ep:=eps_pos; have e6:=eps6; have t0:=tn_pos; have ts:=tn_small; have gZ:=abs_le_iff.1 hZ; have gS:=abs_le_iff.1 hd; have aZ:Z.abs≤66/100:=abs_le_iff.2 ⟨by grind,by grind⟩; have aS:S.abs≤11/10:=abs_le_iff.2 ⟨by grind,by grind⟩; have d1:=div_halfW hY0 hA; have d0:=div_nonneg' hY0 hA; have inv0:0<A⁻¹:=Rat.inv_pos.2 (by grind); have inv1:A⁻¹≤1/2:=by
  have:=Rat.mul_inv_cancel A (by grind)
  have:=Rat.mul_le_mul_of_nonneg_right hA (Rat.le_of_lt inv0)
  grind
 have qa:(Z/A).abs≤33/100:=by
  rw[Rat.div_def,abs_mul,Rat.abs_of_nonneg (Rat.le_of_lt inv0)]
  have:=mul_mono' aZ inv1 (Rat.le_of_lt inv0) (show (0:Rat)≤66/100 by grind)
  grind
 obtain⟨q,Q,f1,i1,r1⟩:=div_is hz ha (by grind) (huge_lt (Rat.le_trans (show (Z/A).abs≤1 by grind) (one_le_p2 400)))
 have e1:=r1.fine; have n1:=Rat.mul_le_mul_of_nonneg_right qa (show 0≤eps/2 by grind); have near1:(Q-Y/A).abs≤eps*(31/100):=by
  have g:=abs_add_le (Q-Z/A) (Z/A-Y/A)
  rw[show Q-Z/A+(Z/A-Y/A)=Q-Y/A by grind]at g
  have h:(Z/A-Y/A).abs≤eps/8:=by
   rw[show Z/A-Y/A=(Z-Y)*A⁻¹ by rw[Rat.div_def,Rat.div_def];grind,abs_mul,Rat.abs_of_nonneg (Rat.le_of_lt inv0)]
   have:=mul_mono' hZ inv1 (Rat.le_of_lt inv0) (show 0≤eps/4 by grind)
   grind
  grind
 generalize Y/A=y at *
 generalize Z/A=z' at *
 have gQ:=abs_le_iff.1 near1; have aQ:Q.abs≤33/100:=abs_le_iff.2 ⟨by grind,by grind⟩; have b200:=big200_lo2; have pm:=mul_mono' aQ aS (abs_nonneg S) (show (0:Rat)≤33/100 by grind)
 obtain⟨p,P,f2,i2,e2,_⟩:=fine_mul i1 hs (by grind)
 have n2:=Rat.mul_le_mul_of_nonneg_left pm (show 0≤eps/4 by grind); have near2:(P-y*σ).abs≤eps*(74/100):=by
  have g:=abs_add_le (P-Q*S) (Q*(S-σ)+(Q-y)*σ)
  rw[show P-Q*S+(Q*(S-σ)+(Q-y)*σ)=P-y*σ by grind]at g
  have g2:=abs_add_le (Q*(S-σ)) ((Q-y)*σ)
  rw[abs_mul,abs_mul,Rat.abs_of_nonneg h0]at g2
  have m1:=mul_mono' aQ hd (abs_nonneg _) (show (0:Rat)≤33/100 by grind); have m2:=mul_mono' near1 h1 h0 (show 0≤eps*(31/100) by grind); grind
 have hy:0≤y*σ∧y*σ≤33/100:=by
  refine⟨Rat.mul_nonneg d0 h0,?_⟩
  have:=mul_mono' (show y≤33/100 by grind) h1 h0 (show (0:Rat)≤33/100 by grind)
  grind
 have gP:=abs_le_iff.1 near2; have aR:(1-P).abs≤101/100:=abs_le_iff.2 ⟨by grind,by grind⟩
 obtain⟨r,R,f3,i3,r3⟩:=sub_is is_one i2 (lt_p2_1023 (show (1-P).abs≤1000 by grind))
 have e3:=r3.fine; have n3:=Rat.mul_le_mul_of_nonneg_right aR (show 0≤eps/4 by grind)
 refine⟨q,p,r,R,f1,f2,f3,i3,?_,by grind,by grind⟩
 have g:=abs_add_le (R-(1-P)) (y*σ-P)
 rw[show R-(1-P)+(y*σ-P)=R-(1-y*σ) by grind]at g
 rw[abs_sub_comm]at near2
 grind
def Pair (p:Nat×Nat) (q:Int×Int):Prop:=Is p.1 (q.1:Rat)∧Is p.2 (q.2:Rat)∧(2:Rat)≤(q.1:Rat)∧(2:Rat)≤(q.2:Rat)
inductive Pairs:List (Nat×Nat)→List (Int×Int)→Prop
 |nil:Pairs [] []
 |cons {p q l m} (h:Pair p q) (hs:Pairs l m):Pairs (p::l) (q::m)
theorem steps_near {z:Nat} {Z Y:Rat} (hz:Is z Z) (hY0:0≤Y) (hY:Y≤65/100) (hZ:(Z-Y).abs≤eps/4):∀{l:List (Nat×Nat)} {m:List (Int×Int)},Pairs l m→∀(s c:Nat) (S C σ γ:Rat),Is s S→Is c C→0≤σ→σ≤1→(S-σ).abs≤eps→0≤γ→γ≤1→(C-γ).abs≤eps→
  ∃ s' c' S' C',Is s' S'∧Is c' C'∧(S'-(stI Y m σ γ).1).abs≤eps∧(C'-(stI Y m σ γ).2).abs≤eps∧0≤(stI Y m σ γ).1∧(stI Y m σ γ).1≤1∧∀(R:Type) (k:Nat→Nat→Option R),stepsR z l s c k=k s' c':=by
 intro l m h; induction h with
 |nil=>exact fun s c S C σ γ hs hc h0 h1 hd g0 g1 gd=>⟨s,c,S,C,hs,hc,hd,gd,h0,h1,fun R k=>rfl⟩
 |cons h hs ih=>
  rename_i p q l m
  obtain⟨a1,a2,b1,b2⟩:=h
  intro s c S C σ γ is ic h0 h1 hd g0 g1 gd
  obtain⟨x1,x2,s',S',f1,f2,f3,i1,e1,k0,k1⟩:=one_step hz hY0 hY hZ a1 b1 is h0 h1 hd
  obtain⟨x3,x4,c',C',f4,f5,f6,i2,e2,l0,l1⟩:=one_step hz hY0 hY hZ a2 b2 ic g0 g1 gd
  obtain⟨s2,c2,S2,C2,t1,t2,t3,t4,t5,t6,t7⟩:=ih s' c' S' C' _ _ i1 i2 k0 k1 e1 l0 l1 e2
  refine⟨s2,c2,S2,C2,t1,t2,t3,t4,t5,t6,fun R k=>?_⟩
  show bindF (fbF .quo z p.1) (fun x=>bindF (fbF .mul x s) fun x=>bindF (fbF .sub 4607182418800017408 x) fun s=>
   bindF (fbF .quo z p.2) fun x=>bindF (fbF .mul x c) fun x=>bindF (fbF .sub 4607182418800017408 x) fun c=>stepsR z l s c k)=k s2 c2
  rw[bindF_eq f1,bindF_eq f2,bindF_eq f3,bindF_eq f4,bindF_eq f5,bindF_eq f6,t7]
theorem int_word {n:Int} {w:Nat} (h:floatOfInt .f64 n=w) (h1:n.natAbs≤1000):Is w (n:Rat):=by
 have:=ofInt_is (n:=n) (by omega)
 rwa [h]at this
theorem pair_of {a b:Nat} {m n:Int} (h1:floatOfInt .f64 m=a) (h2:floatOfInt .f64 n=b) (h3:2≤m∧m≤1000) (h4:2≤n∧n≤1000):Pair (a,b) (m,n):=
 ⟨int_word h1 (by omega),int_word h2 (by omega),by exact_mod_cast h3.1,by exact_mod_cast h4.1⟩
theorem stL_pairs:Pairs stepsL stL:=
 .cons (pair_of (by decide) (by decide) (by decide) (by decide)) (.cons (pair_of (by decide) (by decide) (by decide) (by decide)) (.cons (pair_of (by decide) (by decide) (by decide) (by decide)) (.cons (pair_of (by decide) (by decide) (by decide) (by decide)) (.cons (pair_of (by decide) (by decide) (by decide) (by decide)) (.cons (pair_of (by decide) (by decide) (by decide) (by decide)) (.cons (pair_of (by decide) (by decide) (by decide) (by decide)) (.cons (pair_of (by decide) (by decide) (by decide) (by decide)) (.cons (pair_of (by decide) (by decide) (by decide) (by decide)) .nil))))))))
theorem stepsK_near {y:Nat} {Y:Rat} (hy:Is y Y) (h:Y.abs≤4/5):∃ s c S C,Is s S∧Is c C∧(S-snN Y).abs≤2*eps∧(C-csN Y).abs≤2*eps∧∀(R:Type) (k:Nat→Nat→Option R),stepsK R y k=k s c:=by
 have ep:=eps_pos; have e6:=eps6; have t0:=tn_pos; have ts:=tn_small; have b200:=big200_lo2; have n0:=abs_nonneg Y; have m0:=mul_mono' h h n0 (show (0:Rat)≤4/5 by grind); have sq:Y.abs*Y.abs=Y*Y:=by rw[← abs_mul,sq_abs]
 have s0:=sq_nonneg Y
 obtain⟨z,Z,f1,i1,e1,_⟩:=fine_mul hy hy (by grind)
 have n1:=Rat.mul_le_mul_of_nonneg_left m0 (show 0≤eps/4 by grind); have one0:((1:Rat)-1).abs≤eps:=by rw[show (1:Rat)-1=0 by grind,abs_zero];grind
 obtain⟨s,c,S,C,j1,j2,d1,d2,g0,g1,hk⟩:=steps_near i1 (Y:=Y*Y) s0 (by grind) (by grind) stL_pairs _ _ 1 1 1 1 is_one is_one (by decide) (by decide) one0 (by decide) (by decide) one0
 obtain⟨q1,q2⟩:=series_near h
 generalize (stI (Y*Y) stL 1 1).1=σ at *
 generalize (stI (Y*Y) stL 1 1).2=γ at *
 have gS:=abs_le_iff.1 d1; have aS:S.abs≤11/10:=abs_le_iff.2 ⟨by grind,by grind⟩; have m1:=mul_mono' h aS (abs_nonneg S) (show (0:Rat)≤4/5 by grind)
 obtain⟨t,T,f2,i2,e2,_⟩:=fine_mul hy j1 (by grind)
 have n2:=Rat.mul_le_mul_of_nonneg_left m1 (show 0≤eps/4 by grind)
 refine⟨t,c,T,C,i2,j2,?_,?_,fun R k=>?_⟩
 ·have g:=abs_add_le (T-Y*S) (Y*(S-σ)); have g2:=abs_add_le (T-Y*σ) (Y*σ-snN Y)
  rw[show T-Y*S+Y*(S-σ)=T-Y*σ by grind,abs_mul]at g
  rw[show T-Y*σ+(Y*σ-snN Y)=T-snN Y by grind]at g2
  have m2:=mul_mono' h d1 (abs_nonneg _) (show (0:Rat)≤4/5 by grind); grind
 ·have g:=abs_add_le (C-γ) (γ-csN Y)
  rw[show C-γ+(γ-csN Y)=C-csN Y by grind]at g
  grind
 ·unfold stepsK
  rw[bindF_eq f1,hk,bindF_eq f2]
theorem is_p2W:Is 4454258360616747008 (2242054355/36893488147419103232):=word_lit (m:=4701928774696960) (n:=86) (by decide) (by decide) (by rw[show (2^86:Nat)=77371252455336267181195264 by decide];norm_cast;grind)
theorem is_p3W:Is 4297306550709518336 (160220439/79228162514264337593543950336):=word_lit (m:=5376105825435648) (n:=121) (by decide) (by decide) (by rw[show (2^121:Nat)=2658455991569831745807614120560689152 by decide];norm_cast;grind)
theorem quarterK_near {w:Nat} {x:Rat} (h:Is w x) (h0:0≤x) (hx:x≤64/10):∃(y:Nat) (n:Int) (Y:Rat) (N:Nat),Is y Y∧N≤4∧n=((N % 4:Nat):Int)∧(Y-(x-(N:Rat)*qP)).abs≤3*eps∧Y.abs≤4/5∧∀(R:Type) (k:Nat→Int→Option R),quarterK R w k=k y n:=by
 have ep:=eps_pos; have e6:=eps6; have t0:=tn_pos; have ts:=tn_small; have b200:=big200_lo2; have hq:qP=1686629713/1073741824+2242054355/36893488147419103232+160220439/79228162514264337593543950336:=rfl; have ax:x.abs=x:=Rat.abs_of_nonneg h0; have ac:(5734161139222659/9007199254740992:Rat).abs=5734161139222659/9007199254740992:=Rat.abs_of_nonneg (by grind)
 obtain⟨v,V,f1,iv,ev,_⟩:=fine_mul h is_c1W (by rw[ax,ac];grind)
 rw[ax,ac]at ev
 have gv:=abs_le_iff.1 ev; have n1:=Rat.mul_le_mul_of_nonneg_left (show x*(5734161139222659/9007199254740992)≤41/10 by grind) (show 0≤eps/4 by grind); have vb:V.abs≤((5:Nat):Rat):=by show V.abs≤5;exact abs_le_iff.2 ⟨by grind,by grind⟩
 obtain⟨m,M,im,bM,nM,hm⟩:=roundK_nearW (B:=5) iv vb (by decide)
 have gM:=abs_le_iff.1 nM; have M0:0≤M:=by
  refine Int.not_lt.1 fun hlt=>?_
  have:((M:Int):Rat)≤((-1:Int):Rat):=by exact_mod_cast (show M≤-1 by omega)
  rw[show ((-1:Int):Rat)=-1 by norm_cast]at this
  grind
 have M4:M≤4:=by
  refine Int.not_lt.1 fun hlt=>?_
  have:((5:Int):Rat)≤((M:Int):Rat):=by exact_mod_cast (show 5≤M by omega)
  rw[show ((5:Int):Rat)=5 by norm_cast]at this
  grind
 obtain⟨N,rfl⟩:∃ N:Nat,M=(N:Int):=⟨M.toNat,by omega⟩
 have hN4:N≤4:=by omega
 have eN:(((N:Nat):Int):Rat)=(N:Rat):=by norm_cast
 rw[eN]at gM im
 have N4:(N:Rat)≤4:=by exact_mod_cast hN4
 have N0:(0:Rat)≤(N:Rat):=by exact_mod_cast Nat.zero_le N
 have aN:(N:Rat).abs=N:=Rat.abs_of_nonneg N0; have fl:floatToIntVal .f64 m .i64=some (N:Int):=toInt_is (by rw[eN];exact im) (by omega); have hY:x-(N:Rat)*qP≤79/100∧-(79/100)≤x-(N:Rat)*qP:=by
  rw[hq]
  exact⟨by grind,by grind⟩
 have start:∀(R:Type) (k:Nat→Int→Option R),quarterK R w k=forceB (eqF m 0) fun t=>match t with
   |true=>k w 0
   |false=>lessK R w m fun r=>k r (andI (N:Int) 3):=fun R k=>by
  unfold quarterK quarterB
  rw[fitK_yes h (by rw[ax];grind),forceB_eq]
  simp only
  rw[bindF_eq f1,hm,forceB_eq,forceB_eq]
  cases eqF m 0 with
  |true=>rfl
  |false=>
   simp only
   rw[fl]
   show lessK R w m (fun r=>fiReal R (N:Int) fun n=>k r (andI n 3))=_; congr 1
   funext r
   rw[fiReal_fair]
 cases he:eqF m 0 with
 |true=>
  have hN:(N:Rat)=0:=by
   rw[eqF_is im is0]at he
   simpa using he
  have hN':N=0:=by exact_mod_cast hN
  subst hN'
  refine⟨w,0,x,0,h,by decide,rfl,?_,?_,fun R k=>by rw[start,he,forceB_eq]⟩
  ·rw[show x-(x-((0:Nat):Rat)*qP)=0 by rw[show ((0:Nat):Rat)=0 from rfl];grind,abs_zero]
   grind
  ·rw[ax]
   rw[hN]at hY
   grind
 |false=>
  have a1:(1686629713/1073741824:Rat).abs=1686629713/1073741824:=Rat.abs_of_nonneg (by grind); have a2:(2242054355/36893488147419103232:Rat).abs=2242054355/36893488147419103232:=Rat.abs_of_nonneg (by grind); have a3:(160220439/79228162514264337593543950336:Rat).abs=160220439/79228162514264337593543950336:=Rat.abs_of_nonneg (by grind)
  obtain⟨p1,A1,g1,i1,d1,_⟩:=fine_mul im is_p1W (by rw[aN,a1];grind)
  rw[aN,a1]at d1
  have l1:=Rat.mul_le_mul_of_nonneg_left (show (N:Rat)*(1686629713/1073741824)≤63/10 by grind) (show 0≤eps/4 by grind); have k1:=abs_le_iff.1 d1
  obtain⟨p2,A2,g2,i2,d2,_⟩:=fine_mul im is_p2W (by rw[aN,a2];grind)
  rw[aN,a2]at d2
  have l2:=Rat.mul_le_mul_of_nonneg_left (show (N:Rat)*(2242054355/36893488147419103232)≤1/1000 by grind) (show 0≤eps/4 by grind); have k2:=abs_le_iff.1 d2
  obtain⟨p3,A3,g3,i3,d3,_⟩:=fine_mul im is_p3W (by rw[aN,a3];grind)
  rw[aN,a3]at d3
  have l3:=Rat.mul_le_mul_of_nonneg_left (show (N:Rat)*(160220439/79228162514264337593543950336)≤1/1000 by grind) (show 0≤eps/4 by grind); have k3:=abs_le_iff.1 d3; have s2:0≤(N:Rat)*(2242054355/36893488147419103232)∧(N:Rat)*(2242054355/36893488147419103232)≤1/1000:=⟨by grind,by grind⟩; have s3:0≤(N:Rat)*(160220439/79228162514264337593543950336)∧(N:Rat)*(160220439/79228162514264337593543950336)≤1/1000:=⟨by grind,by grind⟩; have hy:x-(N:Rat)*qP=x-(N:Rat)*(1686629713/1073741824)-(N:Rat)*(2242054355/36893488147419103232)-(N:Rat)*(160220439/79228162514264337593543950336):=by rw[hq];grind
  rw[hy]at hY
  generalize (N:Rat)*(1686629713/1073741824)=q1 at *
  generalize (N:Rat)*(2242054355/36893488147419103232)=q2 at *
  generalize (N:Rat)*(160220439/79228162514264337593543950336)=q3 at *
  have b1:(x-A1).abs≤8/10:=abs_le_iff.2 ⟨by grind,by grind⟩
  obtain⟨x1,X1,g4,i4,r4⟩:=sub_is h i1 (lt_p2_1023 (Rat.le_trans b1 (by grind)))
  have d4:=r4.fine; have l4:=Rat.mul_le_mul_of_nonneg_right b1 (show 0≤eps/4 by grind); have k4:=abs_le_iff.1 d4; have b2:(X1-A2).abs≤9/10:=abs_le_iff.2 ⟨by grind,by grind⟩
  obtain⟨x2,X2,g5,i5,r5⟩:=sub_is i4 i2 (lt_p2_1023 (Rat.le_trans b2 (by grind)))
  have d5:=r5.fine; have l5:=Rat.mul_le_mul_of_nonneg_right b2 (show 0≤eps/4 by grind); have k5:=abs_le_iff.1 d5; have b3:(X2-A3).abs≤9/10:=abs_le_iff.2 ⟨by grind,by grind⟩
  obtain⟨x3,X3,g6,i6,r6⟩:=sub_is i5 i3 (lt_p2_1023 (Rat.le_trans b3 (by grind)))
  have d6:=r6.fine; have l6:=Rat.mul_le_mul_of_nonneg_right b3 (show 0≤eps/4 by grind); have k6:=abs_le_iff.1 d6; have hn:andI (N:Int) 3=((N % 4:Nat):Int):=by
   match N,hN4 with
   |0,_=>decide
   |1,_=>decide
   |2,_=>decide
   |3,_=>decide
   |4,_=>decide
  refine⟨x3,_,X3,N,i6,hN4,hn,by rw[hy];exact abs_le_iff.2 ⟨by grind,by grind⟩,abs_le_iff.2 ⟨by grind,by grind⟩,fun R k=>?_⟩
  rw[start,he,forceB_eq]
  simp only
  unfold lessK
  rw[bindF_eq g1,bindF_eq g4,bindF_eq g2,bindF_eq g5,bindF_eq g3,bindF_eq g6]
theorem tm_twoW (d:Rat):tm d 2=d*d/2:=by
 simp only[tm]
 rw[Rat.div_def,Rat.div_def,Rat.div_def]
 rw[show ((0+1:Nat):Rat)⁻¹=1 by norm_cast;grind,show ((1+1:Nat):Rat)=2 by norm_cast]
 grind
theorem small_turn {d:Rat} (h:d.abs≤1/1000):(csN d-1).abs≤1/1000*d.abs∧(snN d-d).abs≤1/1000*d.abs:=by
 have n0:=abs_nonneg d; have r:=tm_rest n0 (show d.abs≤1/2 by grind) 62 1; have t2:tm d.abs (1+1)=d.abs*d.abs/2:=tm_twoW _
 rw[t2]at r
 have m0:=Rat.mul_le_mul_of_nonneg_right h n0; have a1:(sm (fun m=>reI m*tm d m) (0+1+1) 62).abs≤sm (tm d.abs) (1+1) 62:=sm_abs _ _ fun m _ _=>(term_le d m).1
 have a2:(sm (fun m=>iI m*tm d m) (0+1+1) 62).abs≤sm (tm d.abs) (1+1) 62:=sm_abs _ _ fun m _ _=>(term_le d m).2
 have e1:csN d=reI 0*tm d 0+(reI (0+1)*tm d (0+1)+sm (fun m=>reI m*tm d m) (0+1+1) 62):=rfl; have e2:snN d=iI 0*tm d 0+(iI (0+1)*tm d (0+1)+sm (fun m=>iI m*tm d m) (0+1+1) 62):=rfl; have r0:reI 0*tm d 0=1:=by show (1:Rat)*1=1;grind
 have i0:iI 0*tm d 0=0:=by show (0:Rat)*1=0;grind
 have r1:reI (0+1)*tm d (0+1)=0:=by show (0:Rat)*_=0;grind
 have i1:iI (0+1)*tm d (0+1)=d:=by
  rw[show tm d (0+1)=d from tm_one d]
  show (1:Rat)*d=d; grind
 rw[e1,e2,r0,i0,r1,i1]
 generalize sm (fun m=>reI m*tm d m) (0+1+1) 62=A at *
 generalize sm (fun m=>iI m*tm d m) (0+1+1) 62=B at *
 constructor
 ·rw[show 1+(0+A)-1=A by grind]
  grind
 ·rw[show 0+(d+B)-d=B by grind]
  grind
theorem cs_tight {x d:Rat} (h:x.abs≤35/10) (hd:d.abs≤1/1000):(csN (x+d)-csN x).abs≤101/100*d.abs+kP∧(snN (x+d)-snN x).abs≤101/100*d.abs+kP:=by
 obtain⟨a1,a2⟩:=cs_add (x:=x) (y:=d) (by grind)
 obtain⟨s1,s2⟩:=small_turn hd
 obtain⟨b1,b2⟩:=cs_bd h
 have t:=tl_kP; have n0:=abs_nonneg d; have s3:(snN d).abs≤1001/1000*d.abs:=by
  have:=abs_add_le (snN d-d) d
  rw[show snN d-d+d=snN d by grind]at this
  grind
 have m1:(csN x*(csN d-1)).abs≤1001/1000*(1/1000*d.abs):=by rw[abs_mul];exact mul_mono' b1 s1 (abs_nonneg _) (by grind)
 have m2:(snN x*snN d).abs≤1001/1000*(1001/1000*d.abs):=by rw[abs_mul];exact mul_mono' b2 s3 (abs_nonneg _) (by grind)
 have m3:(csN x*snN d).abs≤1001/1000*(1001/1000*d.abs):=by rw[abs_mul];exact mul_mono' b1 s3 (abs_nonneg _) (by grind)
 have m4:(snN x*(csN d-1)).abs≤1001/1000*(1/1000*d.abs):=by rw[abs_mul];exact mul_mono' b2 s1 (abs_nonneg _) (by grind)
 have g1:=abs_le_iff.1 a1; have g2:=abs_le_iff.1 a2; have g3:=abs_le_iff.1 m1; have g4:=abs_le_iff.1 m2; have g5:=abs_le_iff.1 m3; have g6:=abs_le_iff.1 m4
 exact⟨abs_le_iff.2 ⟨by grind,by grind⟩,abs_le_iff.2 ⟨by grind,by grind⟩⟩
def quC:Nat→Rat|0=>1|1=>0|2=>-1|3=>0|_=>1
def quS:Nat→Rat|0=>0|1=>1|2=>0|3=>-1|_=>0
theorem quarters_of {f g:Rat→Rat} {q e:Rat} (e0:0≤e) (z1:f 0=1) (z2:g 0=0) (h1:(f q).abs≤e∧(g q-1).abs≤e) (h2:(f (2*q)+1).abs≤e∧(g (2*q)).abs≤e) (h3:(f (3*q)).abs≤e∧(g (3*q)+1).abs≤e) (h4:(f (4*q)-1).abs≤e∧(g (4*q)).abs≤e)
  {N:Nat} (h:N≤4):(f ((N:Rat)*q)-quC N).abs≤e∧(g ((N:Rat)*q)-quS N).abs≤e:=by
 obtain⟨q1,q2⟩:=h1
 obtain⟨q3,q4⟩:=h2
 obtain⟨q5,q6⟩:=h3
 obtain⟨q7,q8⟩:=h4
 rcases(by omega:N=0∨N=1∨N=2∨N=3∨N=4) with rfl|rfl|rfl|rfl|rfl
 ·rw[show ((0:Nat):Rat)*q=0 by rw[show ((0:Nat):Rat)=0 from rfl];grind,z1,z2]
  refine⟨?_,?_⟩
  ·rw[show (1:Rat)-quC 0=0 by show (1:Rat)-1=0;grind,abs_zero];exact e0
  ·rw[show (0:Rat)-quS 0=0 by show (0:Rat)-0=0;grind,abs_zero];exact e0
 ·rw[show ((1:Nat):Rat)*q=q by rw[show ((1:Nat):Rat)=1 by norm_cast];grind]
  refine⟨?_,q2⟩
  rw[show f q-quC 1=f q by show f q-0=_;grind];exact q1
 ·rw[show ((2:Nat):Rat)=2 by norm_cast]
  refine⟨?_,?_⟩
  ·rw[show f (2*q)-quC 2=f (2*q)+1 by show f (2*q) - -1=_;grind];exact q3
  ·rw[show g (2*q)-quS 2=g (2*q) by show g (2*q)-0=_;grind];exact q4
 ·rw[show ((3:Nat):Rat)=3 by norm_cast]
  refine⟨?_,?_⟩
  ·rw[show f (3*q)-quC 3=f (3*q) by show f (3*q)-0=_;grind];exact q5
  ·rw[show g (3*q)-quS 3=g (3*q)+1 by show g (3*q) - -1=_;grind];exact q6
 ·rw[show ((4:Nat):Rat)=4 by norm_cast]
  refine⟨q7,?_⟩
  rw[show g (4*q)-quS 4=g (4*q) by show g (4*q)-0=_;grind];exact q8
theorem quarters {N:Nat} (h:N≤4):(csN ((N:Rat)*qP)-quC N).abs≤kP∧(snN ((N:Rat)*qP)-quS N).abs≤kP:=
 quarters_of (Rat.le_of_lt kP_small.1) cs_zero.1 cs_zero.2 quarter_1 quarter_2 quarter_3 quarter_4 h
theorem quarter_mix {A B U V C S a b e t:Rat} (k0:0≤e) (q1:(A-a).abs≤e) (q2:(B-b).abs≤e) (b1:C.abs≤1001/1000) (b2:S.abs≤1001/1000) (ht:t≤e) (a1:(U-(A*C-B*S)).abs≤t) (a2:(V-(A*S+B*C)).abs≤t):
  (U-(a*C-b*S)).abs≤4*e∧(V-(a*S+b*C)).abs≤4*e:=by
 have m1:((A-a)*C).abs≤e*(1001/1000):=by rw[abs_mul];exact mul_mono' q1 b1 (abs_nonneg _) k0
 have m2:((A-a)*S).abs≤e*(1001/1000):=by rw[abs_mul];exact mul_mono' q1 b2 (abs_nonneg _) k0
 have m3:((B-b)*C).abs≤e*(1001/1000):=by rw[abs_mul];exact mul_mono' q2 b1 (abs_nonneg _) k0
 have m4:((B-b)*S).abs≤e*(1001/1000):=by rw[abs_mul];exact mul_mono' q2 b2 (abs_nonneg _) k0
 have g1:=abs_le_iff.1 a1; have g2:=abs_le_iff.1 a2; have g3:=abs_le_iff.1 m1; have g4:=abs_le_iff.1 m2; have g5:=abs_le_iff.1 m3; have g6:=abs_le_iff.1 m4
 exact⟨abs_le_iff.2 ⟨by grind,by grind⟩,abs_le_iff.2 ⟨by grind,by grind⟩⟩
theorem quarter_size {N:Nat} (h:N≤4) {q:Rat} (h0:0≤q) (hq:q≤1575/1000):((N:Rat)*q).abs≤63/10:=by
 have N4:(N:Rat)≤4:=by exact_mod_cast h
 have N0:(0:Rat)≤(N:Rat):=by exact_mod_cast Nat.zero_le N
 rw[Rat.abs_of_nonneg (Rat.mul_nonneg N0 h0)]
 have:=mul_mono' N4 hq h0 (show (0:Rat)≤4 by decide)
 grind
theorem qP_size:0≤qP∧qP≤1575/1000:=by
 have:=qP_in
 exact⟨by grind,by grind⟩
theorem size_sum {a b:Rat} (h:a.abs≤63/10) (g:b.abs≤9/10):a.abs+b.abs≤8:=by grind
theorem size_35 {b:Rat} (g:b.abs≤9/10):b.abs≤35/10:=by grind
theorem quarter_add {N:Nat} (h:N≤4) {y:Rat} (hy:y.abs≤9/10):(csN ((N:Rat)*qP+y)-(quC N*csN y-quS N*snN y)).abs≤4*kP∧(snN ((N:Rat)*qP+y)-(quC N*snN y+quS N*csN y)).abs≤4*kP:=by
 have na:=quarter_size h qP_size.1 qP_size.2; have a:=cs_add (x:=(N:Rat)*qP) (y:=y) (size_sum na hy); have b:=cs_bd (x:=y) (size_35 hy); exact quarter_mix (Rat.le_of_lt kP_small.1) (quarters h).1 (quarters h).2 b.1 b.2 tl_kP a.1 a.2
theorem sub_back (a x:Rat):a+(x-a)=x:=by grind
theorem turn_core {Y Z S C:Rat} (dY:(Y-Z).abs≤3*eps) (bY:Y.abs≤4/5) (dS:(S-snN Y).abs≤2*eps) (dC:(C-csN Y).abs≤2*eps):Z.abs≤9/10∧(S-snN Z).abs≤6*eps-8*kP∧(C-csN Z).abs≤6*eps-8*kP:=by
 have ep:=eps_pos
 obtain⟨k0,k1⟩:=kP_small
 have e6:=eps6; have bd:(Y-Z).abs≤1/1000:=by grind
 have g1:=abs_le_iff.1 bd; have g2:=abs_le_iff.1 bY; have aZ:Z.abs≤9/10:=abs_le_iff.2 ⟨by grind,by grind⟩
 obtain⟨t1,t2⟩:=cs_tight (x:=Z) (d:=Y-Z) (size_35 aZ) bd
 rw[show Z+(Y-Z)=Y by grind]at t1 t2
 have kk:101/100*(3*eps)+10*kP+2*eps≤6*eps:=by grind
 refine⟨aZ,?_,?_⟩
 ·have:=abs_add_le (S-snN Y) (snN Y-snN Z)
  rw[show S-snN Y+(snN Y-snN Z)=S-snN Z by grind]at this
  grind
 ·have:=abs_add_le (C-csN Y) (csN Y-csN Z)
  rw[show C-csN Y+(csN Y-csN Z)=C-csN Z by grind]at this
  grind
def tnS (N:Nat) (s c:Nat):Nat:=match N with|1=>c|2=>Op.negFloat .f64 s|3=>Op.negFloat .f64 c|_=>s
def tnC (N:Nat) (s c:Nat):Nat:=match N with|1=>Op.negFloat .f64 s|2=>Op.negFloat .f64 c|3=>Op.negFloat .f64 (Op.negFloat .f64 s)|_=>c
theorem turn_word {w y s c N:Nat} (hN:N≤4) {n:Int} (hn:n=((N % 4:Nat):Int)) (hq:∀(R:Type) (k:Nat→Int→Option R),quarterK R w k=k y n) (hs:∀(R:Type) (k:Nat→Nat→Option R),stepsK R y k=k s c) (R:Type) (k:Nat→Nat→Option R):turnK R w k=k (tnS N s c) (tnC N s c):=by
 unfold turnK turnB
 rw[hq,hs,hn,forceB_eq]
 rcases(by omega:N=0∨N=1∨N=2∨N=3∨N=4) with rfl|rfl|rfl|rfl|rfl
 ·show forceB ((0:Int) == 1) _=_
  rw[forceB_eq]
  show forceB ((0:Int) == 2) _=_
  rw[forceB_eq]
  rfl
 ·show forceB ((1:Int) == 1) _=_
  rw[forceB_eq]
  show forceN _ _=_
  rw[forceN_eq]
  rfl
 ·show forceB ((2:Int) == 1) _=_
  rw[forceB_eq]
  show forceB ((2:Int) == 2) _=_
  rw[forceB_eq]
  show forceN _ _=_
  rw[forceN_eq,forceN_eq]
  rfl
 ·show forceN _ _=_
  rw[forceN_eq,forceN_eq,forceN_eq]
  rfl
 ·show forceB ((0:Int) == 1) _=_
  rw[forceB_eq]
  show forceB ((0:Int) == 2) _=_
  rw[forceB_eq]
  rfl
theorem turn_val {N s c:Nat} (hN:N≤4) {S C sz cz sx cx:Rat} (is':Is s S) (ic:Is c C) (u1:(S-sz).abs≤6*eps-8*kP) (u2:(C-cz).abs≤6*eps-8*kP) (q1:(cx-(quC N*cz-quS N*sz)).abs≤4*kP) (q2:(sx-(quC N*sz+quS N*cz)).abs≤4*kP):
  ∃ S' C',Is (tnS N s c) S'∧Is (tnC N s c) C'∧(S'-sx).abs≤6*eps∧(C'-cx).abs≤6*eps:=by
 have k0:=kP_small.1; have v1:=abs_le_iff.1 u1; have v2:=abs_le_iff.1 u2; have g1:=abs_le_iff.1 q1; have g2:=abs_le_iff.1 q2; have ns:=neg_is is'; have nc:=neg_is ic; have nns:=neg_is ns
 rcases(by omega:N=0∨N=1∨N=2∨N=3∨N=4) with rfl|rfl|rfl|rfl|rfl
 ·simp only[quC,quS]at g1 g2
  exact⟨S,C,is',ic,abs_le_iff.2 ⟨by grind,by grind⟩,abs_le_iff.2 ⟨by grind,by grind⟩⟩
 ·simp only[quC,quS]at g1 g2
  exact⟨C,-S,ic,ns,abs_le_iff.2 ⟨by grind,by grind⟩,abs_le_iff.2 ⟨by grind,by grind⟩⟩
 ·simp only[quC,quS]at g1 g2
  exact⟨-S,-C,ns,nc,abs_le_iff.2 ⟨by grind,by grind⟩,abs_le_iff.2 ⟨by grind,by grind⟩⟩
 ·simp only[quC,quS]at g1 g2
  exact⟨-C,- -S,nc,nns,abs_le_iff.2 ⟨by grind,by grind⟩,abs_le_iff.2 ⟨by grind,by grind⟩⟩
 ·simp only[quC,quS]at g1 g2
  exact⟨S,C,is',ic,abs_le_iff.2 ⟨by grind,by grind⟩,abs_le_iff.2 ⟨by grind,by grind⟩⟩
theorem turnK_near {w:Nat} {x:Rat} (h:Is w x) (h0:0≤x) (hx:x≤64/10):∃ s c S C,Is s S∧Is c C∧(S-snN x).abs≤6*eps∧(C-csN x).abs≤6*eps∧∀(R:Type) (k:Nat→Nat→Option R),turnK R w k=k s c:=by
 obtain⟨y,n,Y,N,iy,hN,hn,dY,bY,hq⟩:=quarterK_near h h0 hx
 obtain⟨s,c,S,C,is',ic,dS,dC,hs⟩:=stepsK_near iy bY
 obtain⟨aZ,u1,u2⟩:=turn_core dY bY dS dC
 have q:=quarter_add hN aZ
 rw[show (N:Rat)*qP+(x-(N:Rat)*qP)=x from sub_back _ _]at q
 obtain⟨S',C',i1,i2,d1,d2⟩:=turn_val hN is' ic u1 u2 q.1 q.2
 exact⟨_,_,S',C',i1,i2,d1,d2,turn_word hN hn hq hs⟩
end Go.Vm
namespace Go.Vx
open Go.Vm
def om (x:Rat):Cp:=⟨csN x,snN x⟩
theorem kp0:0≤kP:=Rat.le_of_lt kP_small.1
theorem kp_tiny:kP≤1/1000000000000000000000000000:=by unfold kP;decide +kernel
theorem om_zero:om 0=Cp.one:=Cp.ext' cs_zero.1 cs_zero.2
theorem om_re (x:Rat):(om x).re=csN x:=rfl
theorem om_im (x:Rat):(om x).im=snN x:=rfl
theorem om_mix {a b c:Cp} {t e:Rat} (h0:0≤e) (ht:t≤e) (a1:(a.re-(b.re*c.re-b.im*c.im)).abs≤t) (a2:(a.im-(b.re*c.im+b.im*c.re)).abs≤t):Nm (a-b*c) (2*e):=by
 refine(nm_root (r:=e) ?_ ?_).mono (by grind)
 ·simp only[Cp.sub_re,Cp.mul_re];exact Rat.le_trans a1 ht
 ·simp only[Cp.sub_im,Cp.mul_im];exact Rat.le_trans a2 ht
theorem om_add {x y:Rat} (h:x.abs+y.abs≤8):Nm (om (x+y)-om x*om y) (2*kP):=
 om_mix (a:=om (x+y)) (b:=om x) (c:=om y) kp0 tl_kP (by simp only[om_re,om_im];exact(cs_add h).1) (by simp only[om_re,om_im];exact(cs_add h).2)
theorem om_sq {x:Rat} (h:x.abs≤35/10):((om x).nsq-1).abs≤kP:=Rat.le_trans (cs_one h) tl_kP
theorem nm_of_sq {z:Cp} {e:Rat} (h0:0≤e) (h:(z.nsq-1).abs≤e):Nm z (1+e):=by
 have g:=abs_le_iff.1 h
 have:=Rat.mul_nonneg h0 h0
 exact⟨by grind,by grind⟩
theorem om_half {x:Rat} (h:x.abs≤35/10):Nm (om x) (1+kP):=nm_of_sq kp0 (om_sq h)
theorem om_bd {x:Rat} (h:x.abs≤7):Nm (om x) (1+6*kP):=by
 have h2:(x/2).abs≤35/10:=by
  have g:=abs_le_iff.1 h; exact abs_le_iff.2 ⟨by grind,by grind⟩
 have a:=om_add (x:=x/2) (y:=x/2) (by grind)
 rw[show x/2+x/2=x by grind]at a
 have b:=om_half h2
 refine(a.near (b.mul b)).mono ?_
 have k:=kp0; have k2:=kp_tiny; generalize kP=e at *
 have:=Rat.mul_le_mul_of_nonneg_left (show e≤1 by grind) k
 grind
theorem om_len {x:Rat} (h:x.abs≤7):((om x).nsq-1).abs≤20*kP:=by
 have h2:(x/2).abs≤35/10:=by
  have g:=abs_le_iff.1 h; exact abs_le_iff.2 ⟨by grind,by grind⟩
 have a:=om_add (x:=x/2) (y:=x/2) (by grind)
 rw[show x/2+x/2=x by grind]at a
 have b:=om_sq h2; have c:=om_bd h; have k:=kp0; have k2:=kp_tiny; have d:=(om_half h2).mul (om_half h2); have e1:(om x).nsq-((om (x/2)).nsq*(om (x/2)).nsq)=(om x-om (x/2)*om (x/2)).re*(om x+om (x/2)*om (x/2)).re+(om x-om (x/2)*om (x/2)).im*(om x+om (x/2)*om (x/2)).im:=by
  rw[← Cp.nsq_mul]
  unfold Cp.nsq; simp only[Cp.sub_re,Cp.sub_im,Cp.add_re,Cp.add_im]; grind
 have s:=c.add d; have p1:((om x-om (x/2)*om (x/2)).re*(om x+om (x/2)*om (x/2)).re).abs≤2*kP*(1+6*kP+(1+kP)*(1+kP)):=by rw[abs_mul];exact mul_mono' a.re s.re (abs_nonneg _) a.1
 have p2:((om x-om (x/2)*om (x/2)).im*(om x+om (x/2)*om (x/2)).im).abs≤2*kP*(1+6*kP+(1+kP)*(1+kP)):=by rw[abs_mul];exact mul_mono' a.im s.im (abs_nonneg _) a.1
 have b':=abs_le_iff.1 b; have q1:=abs_le_iff.1 p1; have q2:=abs_le_iff.1 p2; have N0:=(om (x/2)).nsq_nonneg; generalize (om x-om (x/2)*om (x/2)).re*(om x+om (x/2)*om (x/2)).re=U at *
 generalize (om x-om (x/2)*om (x/2)).im*(om x+om (x/2)*om (x/2)).im=V at *
 generalize (om x).nsq=A at *
 generalize (om (x/2)).nsq=B at *
 clear a c d s p1 p2; generalize kP=e at *
 have m1:=Rat.mul_le_mul_of_nonneg_left (show e≤1/1000 by grind) k; have m2:((B-1)*(B-1)).abs≤e*e:=by rw[abs_mul];exact mul_mono' b b (abs_nonneg _) k
 have m3:=abs_le_iff.1 m2; have w:2*e*(1+6*e+(1+e)*(1+e))≤5*e:=by
  have:=Rat.mul_le_mul_of_nonneg_left (show 1+6*e+(1+e)*(1+e)≤5/2 by grind) (show 0≤2*e by grind)
  grind
 exact abs_le_iff.2 ⟨by grind,by grind⟩
theorem tm_rise {t c:Rat} (h0:0≤t) (h:t≤c):∀ m,c*c*tm t (m+2)≤t*t*tm c (m+2):=by
 have c0:=Rat.le_trans h0 h; intro m; induction m with
 |zero=>
  rw[show 0+2=2 from rfl,tm_twoW,tm_twoW]
  grind
 |succ m ih=>
  have e1:tm t (m+1+2)=tm t (m+2)*t/((m+2+1:Nat):Rat):=rfl; have e2:tm c (m+1+2)=tm c (m+2)*c/((m+2+1:Nat):Rat):=rfl
  rw[e1,e2,Rat.div_def,Rat.div_def]
  have hq:(0:Rat)≤(((m+2+1:Nat):Rat))⁻¹:=Rat.le_of_lt (Rat.inv_pos.2 (by exact_mod_cast Nat.succ_pos _)); have n1:=tm_nonneg h0 (m+2); have n2:=tm_nonneg c0 (m+2); clear e1 e2; generalize (((m+2+1:Nat):Rat))⁻¹=q at *
  generalize tm t (m+2)=A at *
  generalize tm c (m+2)=B at *
  have m1:=Rat.mul_le_mul_of_nonneg_right ih (Rat.mul_nonneg h0 hq); have tt:=Rat.mul_nonneg h0 h0; have m2:=Rat.mul_le_mul_of_nonneg_right h (Rat.mul_nonneg (Rat.mul_nonneg tt n2) hq); grind
theorem cs_low {t:Rat} (h0:0≤t) (h:t≤3/2):csN t≤1-t*t/4:=by
 have key:∀ m,(3/2)*(3/2)*tm t (m+2)≤t*t*tm (3/2) (m+2):=tm_rise h0 h; have num:sm (tm (3/2)) 4 60≤3/10:=by decide +kernel
 have a4:(sm (fun m=>reI m*tm t m) 4 60).abs≤sm (tm t) 4 60:=by
  have:=sm_abs (f:=fun m=>reI m*tm t m) (g:=tm t.abs) 60 4 fun m _ _=>(term_le t m).1
  rwa [Rat.abs_of_nonneg h0]at this
 have b4:(3/2)*(3/2)*sm (tm t) 4 60≤t*t*sm (tm (3/2)) 4 60:=by
  rw[← sm_mul,← sm_mul]
  refine sm_mono _ _ _ _ fun m hm _=>?_
  obtain⟨j,rfl⟩:∃ j,m=j+2:=⟨m-2,by omega⟩
  exact key j
 have split:csN t=sm (fun m=>reI m*tm t m) 0 4+sm (fun m=>reI m*tm t m) 4 60:=sm_split _ 4 60 0; have front:sm (fun m=>reI m*tm t m) 0 4=1-t*t/2:=by
  simp only[sm,Nat.zero_add,Nat.reduceAdd,show reI 0=1 from rfl,show reI 1=0 from rfl,show reI 2=-1 from rfl,show reI 3=0 from rfl,tm_twoW,show tm t 0=1 from rfl]
  grind
 have g:=abs_le_iff.1 a4; have tt:=Rat.mul_nonneg h0 h0; have m3:=Rat.mul_le_mul_of_nonneg_left num tt
 rw[split,front]
 generalize sm (fun m=>reI m*tm t m) 4 60=A at *
 generalize sm (tm t) 4 60=B at *
 generalize sm (tm (3/2)) 4 60=C at *
 grind
theorem cs_mid {y:Rat} (h:y.abs≤165/100):-(9/10)≤csN y:=by
 have num:sm (tm (165/100)) 4 60≤1/2:=by decide +kernel
 have a4:(sm (fun m=>reI m*tm y m) 4 60).abs≤sm (tm (165/100)) 4 60:=by
  refine sm_abs _ _ fun m _ _=>Rat.le_trans (term_le y m).1 (tm_mono (abs_nonneg y) h m)
 have split:csN y=sm (fun m=>reI m*tm y m) 0 4+sm (fun m=>reI m*tm y m) 4 60:=sm_split _ 4 60 0; have front:sm (fun m=>reI m*tm y m) 0 4=1-y*y/2:=by
  simp only[sm,Nat.zero_add,Nat.reduceAdd,show reI 0=1 from rfl,show reI 1=0 from rfl,show reI 2=-1 from rfl,show reI 3=0 from rfl,tm_twoW,show tm y 0=1 from rfl]
  grind
 have g:=abs_le_iff.1 a4; have sq:=sq_le h
 rw[split,front]
 generalize sm (fun m=>reI m*tm y m) 4 60=A at *
 generalize sm (tm (165/100)) 4 60=C at *
 grind
end Go.Vx
