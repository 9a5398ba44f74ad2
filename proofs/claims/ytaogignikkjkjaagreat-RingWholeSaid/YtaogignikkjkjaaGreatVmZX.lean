/- A part of the evaluator and of what is told of floats; no conditions. -/
import Derived.Test.YtaogignikkjkjaaGreatVmP4
import Derived.Test.YtaogignikkjkjaaGreatVmKL
import Derived.Test.YtaogignikkjkjaaGreatVmLP
import Derived.Test.YtaogignikkjkjaaGreatProg
set_option linter.unusedSimpArgs false
set_option linter.unusedVariables false
set_option maxRecDepth 1000000
set_option linter.unusedSectionVars false
namespace Go.Vm
open Go.Proofs
theorem run_ext {P : Program} {f : FuncId} {fn : Func} {ext : Array Value → Sem Value} (h1 : P.funcs[f]? = some fn) (h2 : (fn.name == "runtime.NumGoroutine") = false) (h3 : fn.body.isNone = true)
  (h4:Extern.find fn=some ext) (h5:(Extern.findNext fn).isNone=true) {args:Array Value} {v:Value} (h6:ext args=pure v) (w:World):(callFunc f args).run P w=.ok (.value v) w:=by
 have h5':Extern.findNext fn=none:=by simpa using h5
 have h2' : fn.name ≠ "runtime.NumGoroutine" := by simpa using h2
 have h3':fn.body=none:=by simpa using h3
 unfold callFunc; simp[Sem.run_bind,h1,h2',h3',h4,h5',h6]
theorem e144:ExtOk Tryz.prog 57 xFrom:=by
 intro R args k r hr; unfold xFrom at hr;split at hr
 ·rename_i n
  rw[forceN_eq]at hr
  exact⟨rfl,_,hr,rfl,fun w=>run_ext Tryz.func57 (by kernel_rfl) (by kernel_rfl) (show Extern.find Tryz.f57=some Extern.MathFloatBits.float64frombits by kernel_rfl) (by kernel_rfl) rfl w⟩
 ·cases hr
theorem e145:ExtOk Tryz.prog 58 xBits:=by
 intro R args k r hr; unfold xBits at hr;split at hr
 ·rename_i b
  rw[fiReal_fair]at hr
  exact⟨rfl,_,hr,rfl,fun w=>run_ext Tryz.func58 (by kernel_rfl) (by kernel_rfl) (show Extern.find Tryz.f58=some Extern.MathFloatBits.float64bits by kernel_rfl) (by kernel_rfl) rfl w⟩
 ·cases hr
theorem whole_run {name:String} {way:Ieee.Toward} {x:Nat} {d:Ieee.Datum} (h:Ieee.double.read x=d) (hd:∀ s t,d≠.nan s t):
  Extern.MathFloor.toIntegral name way #[.float .f64 x]=pure (.float .f64 (Ieee.double.write (d.integral way))):=by
 show (match Ieee.double.read x with | .nan s t=>_|d=>pure (Value.float .f64 (Ieee.double.write (d.integral way))))=_
 rw[h]
 cases d with
 |number s m e=>rfl
 |infinity s=>rfl
 |nan s t=>exact absurd rfl (hd s t)
theorem e279:ExtOk Tryz.prog 127 (xWhole .even):=by
 intro R args k r hr; unfold xWhole at hr;split at hr
 ·rename_i x; split at hr
  ·cases hr
  ·rename_i d hd
   rw[forceN_eq]at hr
   exact ⟨rfl, _, hr, rfl, fun w => run_ext Tryz.func127 (by kernel_rfl) (by kernel_rfl) (show Extern.find Tryz.f127 = some (Extern.MathFloor.toIntegral "math.RoundToEven" .even) by kernel_rfl) (by kernel_rfl) (whole_run rfl hd) w⟩
 ·cases hr
theorem e280:ExtOk Tryz.prog 128 (xWhole .zero):=by
 intro R args k r hr; unfold xWhole at hr;split at hr
 ·rename_i x; split at hr
  ·cases hr
  ·rename_i d hd
   rw[forceN_eq]at hr
   exact ⟨rfl, _, hr, rfl, fun w => run_ext Tryz.func128 (by kernel_rfl) (by kernel_rfl) (show Extern.find Tryz.f128 = some (Extern.MathFloor.toIntegral "math.archTrunc" .zero) by kernel_rfl) (by kernel_rfl) (whole_run rfl hd) w⟩
 ·cases hr
inductive ExtsOk (P:Program):List (Nat×Sum)→Prop
 |nil:ExtsOk P []
 |cons {f:Nat} {g:Sum} {r:List (Nat×Sum)} (h:ExtOk P f g) (hr:ExtsOk P r):ExtsOk P ((f,g)::r)
theorem exts_ok {P:Program}:∀{l:List (Nat×Sum)},ExtsOk P l→∀ f g,tab l f=some g→ExtOk P f g
 |_,.nil,f,g,h=>by simp[tab]at h
 |_,.cons (f:=n) h hr,f,g,h'=>by
  unfold tab at h'; cases hb:Nat.beq n f with
  |true=>
   rw[hb]at h'
   cases h'
   rw[Nat.eq_of_beq_eq_true hb]at h
   exact h
  |false=>rw[hb]at h';exact exts_ok hr f g h'
theorem extL_ok:ExtsOk Tryz.prog extL:=.cons e144 (.cons e145 (.cons e279 (.cons e280 .nil)))
open Ieee
theorem and_two_pow' (y i:Nat):y &&& 2^i=(y.testBit i).toNat*2^i:=by
 apply Nat.eq_of_testBit_eq
 intro j
 rw[Nat.testBit_and,Nat.testBit_two_pow]
 by_cases h:i=j
 ·subst h; cases y.testBit i
  ·simp
  ·simp[Nat.testBit_two_pow_self]
 ·cases y.testBit i
  ·simp[h]
  ·simp[Nat.testBit_two_pow,h]
theorem strip_eq {s:Bool} {E f:Nat} (hE:E≤2046) (hf:f<2^52):andNotU ((((if s then 2^63 else 0)+E*2^52+f:Nat)):Int) 9218868437227405312=(((if s then 2^63 else 0)+f:Nat):Int):=by
 have hlt:(if s then 2^63 else 0)+E*2^52+f<2^64:=by split<;>omega
 have h1:=andNotU_eq (a:=(if s then 2^63 else 0)+E*2^52+f) (b:=9218868437227405312) hlt (by decide); have hm:2^64-1-9218868437227405312=2^63 ||| (2^52-1):=by decide
 rw[hm,Nat.and_or_distrib_left,Nat.and_two_pow_sub_one_eq_mod,and_two_pow']at h1
 have h2:((if s then 2^63 else 0)+E*2^52+f).testBit 63=s:=by
  rw[Nat.testBit_eq_decide_div_mod_eq]
  cases s
  ·simp only[Bool.false_eq_true,if_false]
   have:(0+E*2^52+f)/2^63 % 2=0:=by omega
   rw[this];rfl
  ·simp only[if_true]
   have:(2^63+E*2^52+f)/2^63 % 2=1:=by omega
   rw[this];rfl
 have h3:((if s then 2^63 else 0)+E*2^52+f) % 2^52=f:=by
  cases s
  ·simp only[Bool.false_eq_true,if_false];omega
  ·simp only[if_true];omega
 rw[h2,h3]at h1
 rw[show ((9218868437227405312:Nat):Int)=9218868437227405312 by rfl]at h1
 rw[h1]
 congr 1
 cases s
 ·simp
 ·simp only[Bool.toNat_true,Nat.one_mul,if_true]
  have:=Nat.two_pow_add_eq_or_of_lt (i:=63) (b:=f) (by omega) 1
  rw[Nat.mul_one]at this
  exact this.symm
theorem lay_eq {s:Bool} {E f:Nat} (hE:E≤2047) (hf:f<2^52):(orU ((((if s then 2^63 else 0)+f:Nat)):Int) ((E*2^52:Nat):Int)).toNat=(if s then 2^63 else 0)+E*2^52+f:=by
 rw[orU_eq (by split<;>omega) (by omega),Int.toNat_natCast]
 have h1:((if s then 2^63 else 0)+f)=2^52*(if s then 2^11 else 0) ||| f:=by
  rw[← Nat.two_pow_add_eq_or_of_lt hf]
  cases s
  ·simp
  ·simp only[if_true]
 have h2:2^52*(if s then 2^11 else 0) ||| E*2^52=2^52*((if s then 2^11 else 0)+E):=by
  have g1:(if s then 2^11 else 0)+E=(if s then 2^11 else 0) ||| E:=by
   cases s
   ·simp
   ·simp only[if_true]
    have:=Nat.two_pow_add_eq_or_of_lt (i:=11) (b:=E) (by omega) 1
    rwa [Nat.mul_one]at this
  rw[g1]
  generalize (if s then 2^11 else 0)=t
  rw[Nat.mul_comm (2^52) t,Nat.mul_comm (2^52)]
  have:=@Nat.shiftLeft_or_distrib 52 t E
  simp only[Nat.shiftLeft_eq]at this
  exact this.symm
 rw[h1,Nat.or_assoc,Nat.or_comm f,← Nat.or_assoc,h2,← Nat.two_pow_add_eq_or_of_lt hf]
 cases s
 ·simp only[Bool.false_eq_true,if_false];omega
 ·simp only[if_true];omega
theorem copy_zero {y:Nat} (hy:y<2^64):∃ w,Is w 0∧∀(R:Type) (k:Nat→Option R),copyK R 0 y k=k w:=by
 have h0:andNotU 0 9223372036854775808=0:=by decide
 have h1:=andU_eq (a:=y) (b:=9223372036854775808) hy (by decide)
 rw[show ((9223372036854775808:Nat):Int)=9223372036854775808 by rfl]at h1
 have h2:y &&& 9223372036854775808=(y.testBit 63).toNat*2^63:=by
  rw[show (9223372036854775808:Nat)=2^63 by decide,and_two_pow']
 refine⟨(y.testBit 63).toNat*2^63,?_,fun R k=>?_⟩
 ·cases y.testBit 63
  ·simp only[Bool.toNat_false,Nat.zero_mul]
   exact⟨by decide,false,0,-1074,by decide,dv_zero _ _⟩
  ·simp only[Bool.toNat_true,Nat.one_mul]
   exact⟨by decide,true,0,-1074,by decide,dv_zero _ _⟩
 ·unfold copyK; have h3:=orU_eq (a:=0) (b:=(y.testBit 63).toNat*2^63) (by decide) (by cases y.testBit 63<;>decide); show k (orU (andNotU ((0:Nat):Int) 9223372036854775808) (andU y 9223372036854775808)).toNat=_
  rw[h1,h2]
  rw[show (andNotU ((0:Nat):Int) 9223372036854775808)=((0:Nat):Int) from h0,h3,Int.toNat_natCast,Nat.zero_or]
theorem clampI_eq {n:Int} (h1:-5000≤n) (h2:n≤5000):clampI n=n:=by
 unfold clampI; split<;>split<;>omega
theorem scaleK_is {a:Nat} {x:Rat} {n:Int} (h:Is a x) (hn1:-5000≤n) (hn2:n≤5000) (hlt:(x*(2:Rat)^n).abs<(2:Rat)^(1023:Int)):
  ∃ r z,Is r z∧Rnd (x*(2:Rat)^n) z∧∀(R:Type) (k:Nat→Option R),scaleK R a n k=k r:=by
 have hdef:∀(R:Type) (k:Nat→Option R),scaleK R a n k=ldexpK R a n k:=fun R k=>by
  show ldexpK R a (clampI n) k=_
  rw[clampI_eq hn1 hn2]
 by_cases hx:x=0
 ·subst hx
  refine⟨a,0,h,⟨.inl ?_,fun K q _ _ e=>?_⟩,fun R k=>?_⟩
  ·rw[Rat.zero_mul,Rat.sub_self,abs_zero];simp
  ·exact(Rat.zero_mul _).symm
  ·rw[hdef]
   unfold ldexpK ldexpB
   rw[forceB_eq,eqF_is h is_zero]
   simp
 ·obtain⟨y,e,he,hy,hnn,hk⟩:=normK_is h hx
  have hyw:=hy.1
  obtain⟨s,E,f,rfl,b1,b2,b3,hv⟩:=normal_fields hy hnn
  obtain⟨d1,d2⟩:=dv_band (s:=s) (E:=E) b3
  have hx0:¬ (x=((0:Int):Rat)):=by simpa using hx
  have hxe:x*(2:Rat)^n=dv s (2^52+f) ((E:Int)-1075)*(2:Rat)^(n+e):=by
   rw[← hv,Rat.mul_assoc,← p2_add]
   congr 2
   omega
  have hdv:∀ j:Int,dv s (2^52+f) ((E:Int)-1075)*(2:Rat)^j=dv s (2^52+f) ((E:Int)-1075+j):=fun j=>by
   unfold dv;rw[p2_add];grind
  have hlo:(2:Rat)^(n+e+E-1023)≤(x*(2:Rat)^n).abs:=by
   rw[hxe,abs_mul,p2_abs]
   have:=Rat.mul_le_mul_of_nonneg_right d1 (Rat.le_of_lt (p2_pos (n+e)))
   rw[← p2_add,show (E:Int)-1023+(n+e)=n+e+E-1023 by omega]at this
   exact this
  have hhi:(x*(2:Rat)^n).abs<(2:Rat)^(n+e+E-1022):=by
   rw[hxe,abs_mul,p2_abs]
   have:=Rat.mul_lt_mul_of_pos_right d2 (p2_pos (n+e))
   rw[← p2_add,show (E:Int)-1022+(n+e)=n+e+E-1022 by omega]at this
   exact this
  have hex:n+e+E-1023<1023:=p2_lt_of (by grind); have hgo:∀(R:Type) (k:Nat→Option R),scaleK R a n k=ldexpTail fiReal copyK ((if s then 2^63 else 0)+E*2^52+f) e n k:=fun R k=>by
   rw[hdef]
   unfold ldexpK ldexpB
   rw[forceB_eq,eqF_is h is_zero]
   simp only[hx0,decide_false]
   rw[isInfK_no h,forceB_eq]
   simp only
   rw[isNanK_no h,forceB_eq]
   simp only
   rw[hk]
  have hexpo:IntKind.i64.wrap (andI (IntKind.i64.wrap (shrU ((((if s then 2^63 else 0)+E*2^52+f:Nat)):Int) 52)) 2047-1023)=(E:Int)-1023:=by
   have h1:((if s then 2^63 else 0)+E*2^52+f)/2^52=(if s then 2048 else 0)+E:=by
    cases s
    ·simp only[Bool.false_eq_true,if_false];omega
    ·simp only[if_true];omega
   rw[shrU_eq,h1,wrapI (n:=(((if s then 2048 else 0)+E:Nat):Int)) (by split<;>omega) (by split<;>omega)]
   have h2:=andI_eq (a:=(if s then 2048 else 0)+E) (b:=2047) (by split<;>omega) (by decide); have h3:((if s then 2048 else 0)+E) &&& 2047=E:=by
    have:=Nat.and_two_pow_sub_one_eq_mod ((if s then 2048 else 0)+E) 11
    rw[show 2^11-1=2047 by decide]at this
    rw[this]
    cases s
    ·simp only[Bool.false_eq_true,if_false];omega
    ·simp only[if_true];omega
   rw[h3,show ((2047:Nat):Int)=2047 by rfl]at h2
   rw[h2,wrapI (by omega) (by omega)]
  have htail:∀(R:Type) (k:Nat→Option R),ldexpTail fiReal copyK ((if s then 2^63 else 0)+E*2^52+f) e n k =
    if n+e+E-1023 < -1075 then copyK R 0 ((if s then 2^63 else 0)+E*2^52+f) k
    else if n+e+E-1023 < -1022 then ldexpEnd fiReal ((if s then 2^63 else 0)+E*2^52+f) (n+e+E-970) 4368491638549381120 k
    else ldexpEnd fiReal ((if s then 2^63 else 0)+E*2^52+f) (n+e+E-1023) 4607182418800017408 k:=fun R k=>by
   unfold ldexpTail; simp only[fiReal_fair R]
   rw[hexpo,wrapI (n:=n+e) (by omega) (by omega),wrapI (n:=n+e+((E:Int)-1023)) (by omega) (by omega)]
   rw[show n+e+((E:Int)-1023)=n+e+E-1023 by omega]
   simp only[forceB_eq]
   by_cases c1:n+e+E-1023 < -1075
   ·simp[c1]
   ·have c2:¬ (n+e+E-1023 > 1023):=by omega
    by_cases c3:n+e+E-1023 < -1022
    ·simp only[c1,c2,c3,decide_false,decide_true,if_false,if_true]
     rw[wrapI (by omega) (by omega),show n+e+(E:Int)-1023+53=n+e+E-970 by omega]
    ·simp only[c1,c2,c3,decide_false,if_false]
  have hend:∀(ex:Int) (m:Nat) (R:Type) (k:Nat→Option R),-1022≤ex→ex≤1023→ldexpEnd fiReal ((if s then 2^63 else 0)+E*2^52+f) ex m k =
    bindF (fbF .mul m ((if s then 2^63 else 0)+(ex+1023).toNat*2^52+f)) k:=fun ex m R k g1 g2=>by
   unfold ldexpEnd; simp only[fiReal_fair R]
   rw[wrapI (by omega) (by omega),wrapU (by omega) (by omega),strip_eq b2 b3]
   obtain⟨t,ht⟩:=Int.eq_ofNat_of_zero_le (show 0≤ex+1023 by omega)
   rw[ht,shlU_eq (by omega),lay_eq (by omega) b3,Int.toNat_natCast]
  by_cases c1:n+e+E-1023 < -1075
  ·obtain⟨w,g1,g2⟩:=copy_zero hyw
   have hsm:(x*(2:Rat)^n).abs<(2:Rat)^(-1075:Int):=by
    have:=p2_le (show n+e+E-1022≤-1075 by omega)
    grind
   refine⟨w,0,g1,⟨.inr ?_,fun K q k1 k2 k3=>?_⟩,fun R k=>by rw[hgo,htail,if_pos c1,g2]⟩
   ·rw[show (0:Rat)-x*(2:Rat)^n=-(x*(2:Rat)^n) by grind,abs_neg]
    grind
   ·rw[k3,abs_mul,int_abs,p2_abs]at hsm
    have hK:K.natAbs=0:=by
     rcases Nat.eq_zero_or_pos K.natAbs with h0|h0
     ·exact h0
     ·exfalso; have f1:((1:Nat):Rat)≤((K.natAbs:Nat):Rat):=nat_cast_le h0; have f2:=Rat.mul_le_mul_of_nonneg_right f1 (Rat.le_of_lt (p2_pos q)); have f3:=p2_le (show (-1075:Int)≤q by omega); have f4:((1:Nat):Rat)*(2:Rat)^q=(2:Rat)^q:=by simp
      grind
    have:K=0:=by omega
    rw[k3,this]
    simp
  ·by_cases c3:n+e+E-1023 < -1022
   ·have hw:=fields_is (s:=s) (E:=(n+e+E-970+1023).toNat) (f:=f) (by omega) (by omega) b3; have hval:(2:Rat)^(-53:Int)*dv s (2^52+f) ((((n+e+E-970+1023).toNat:Nat):Int)-1075)=x*(2:Rat)^n:=by
     rw[hxe,hdv,Rat.mul_comm]
     unfold dv
     rw[Rat.mul_assoc,Rat.mul_assoc,← p2_add]
     congr 3
     omega
    obtain⟨r,z,m1,m2,m3⟩:=mul_is is_m53 hw (by rw[hval];exact hlt)
    rw[hval]at m3
    exact⟨r,z,m2,m3,fun R k=>by rw[hgo,htail,if_neg c1,if_pos c3,hend _ _ R k (by omega) (by omega),bindF_eq m1]⟩
   ·have hw:=fields_is (s:=s) (E:=(n+e+E-1023+1023).toNat) (f:=f) (by omega) (by omega) b3; have hval:1*dv s (2^52+f) ((((n+e+E-1023+1023).toNat:Nat):Int)-1075)=x*(2:Rat)^n:=by
     rw[hxe,hdv,Rat.one_mul]
     congr 1
     omega
    obtain⟨r,z,m1,m2,m3⟩:=mul_is is_one hw (by rw[hval];exact hlt)
    rw[hval]at m3
    exact⟨r,z,m2,m3,fun R k=>by rw[hgo,htail,if_neg c1,if_neg c3,hend _ _ R k (by omega) (by omega),bindF_eq m1]⟩
theorem sq_le {x m:Rat} (h:x.abs≤m):x*x≤m*m:=by
 obtain⟨h1,h2⟩:=abs_le_iff.1 h
 have:=Rat.mul_nonneg (show 0≤m-x by grind) (show 0≤m+x by grind)
 grind
theorem sq_nonneg (x:Rat):0≤x*x:=by
 rcases(Rat.le_total:0≤x∨x≤0) with h|h
 ·exact Rat.mul_nonneg h h
 ·have:=Rat.mul_nonneg (show 0≤-x by grind) (show 0≤-x by grind);grind
theorem sq_ge {x m:Rat} (h:m≤x.abs) (hm:0≤m):m*m≤x*x:=by
 rcases(Rat.le_total:0≤x∨x≤0) with g|g
 ·rw[Rat.abs_of_nonneg g]at h
  have h1:=Rat.mul_le_mul_of_nonneg_left h hm; have h2:=Rat.mul_le_mul_of_nonneg_right h g; grind
 ·rw[Rat.abs_of_nonpos g]at h
  have h1:=Rat.mul_le_mul_of_nonneg_left h hm; have h2:=Rat.mul_le_mul_of_nonneg_right h (show 0≤-x by grind); grind
theorem e53_le:(2:Rat)^(-53:Int)≤1/1000:=by
 have h6:=p2_le (show (-53:Int)≤-10 by decide); have h7:(2:Rat)^(-10:Int)*(2:Rat)^(10:Int)=1:=by rw[← p2_add,show (-10+10:Int)=0 by decide,Rat.zpow_zero]
 have h8:(2:Rat)^(10:Int)=1024:=by rw[show (10:Int)=((10:Nat):Int) by rfl,p2_nat];rfl
 rw[h8]at h7
 grind
theorem Rnd.coarse {x z:Rat} (h:Rnd x z):(z-x).abs≤x.abs*(1/1000)+(2:Rat)^(-1075:Int):=by
 have h1:=Rat.mul_le_mul_of_nonneg_left e53_le (abs_nonneg x); have h2:=p2_pos (-1075); have h3:=abs_nonneg x; rcases h.near with g|g<;>grind
theorem p2_small {q:Int} (h:q≤-53):(2:Rat)^q≤1/1000:=Rat.le_trans (p2_le h) e53_le
theorem lt_p2_1023 {x:Rat} (h:x.abs≤1000):x.abs<(2:Rat)^(1023:Int):=by
 have h6:=p2_le (show (10:Int)≤1023 by decide); have h8:(2:Rat)^(10:Int)=1024:=by rw[show (10:Int)=((10:Nat):Int) by rfl,p2_nat];rfl
 grind
theorem greatestK_is {a b:Nat} {x y:Rat} (ha:Is a x) (hb:Is b y):∃(g:Nat) (G:Rat),Is g G∧x.abs≤G∧y.abs≤G∧(G=x.abs∨G=y.abs)∧∀(R:Type) (k:Nat→Option R),greatestK R a b k=k g:=by
 have hdef:∀(R:Type) (k:Nat→Option R),greatestK R a b k=forceB (gtF (absW b) (absW a)) fun t=>match t with
   |true=>k (absW b)
   |false=>k (absW a):=fun R k=>rfl
 by_cases h:x.abs<y.abs
 ·refine⟨_,y.abs,abs_is hb,by grind,by grind,.inr rfl,fun R k=>?_⟩
  rw[hdef,forceB_eq,gtF_is (abs_is hb) (abs_is ha)]
  simp only[h,decide_true]
 ·refine⟨_,x.abs,abs_is ha,by grind,by grind,.inl rfl,fun R k=>?_⟩
  rw[hdef,forceB_eq,gtF_is (abs_is hb) (abs_is ha)]
  simp only[h,decide_false]
theorem abs_mul_le {a b A B:Rat} (h1:a.abs≤A) (h2:b.abs≤B):(a*b).abs≤A*B:=by
 rw[abs_mul]
 have h3:=Rat.mul_le_mul_of_nonneg_right h1 (abs_nonneg b); have h4:=Rat.mul_le_mul_of_nonneg_left h2 (show 0≤A by have:=abs_nonneg a;grind); grind
theorem e51_le:(2:Rat)^(-51:Int)≤1/1000:=by
 have h6:=p2_le (show (-51:Int)≤-10 by decide); have h7:(2:Rat)^(-10:Int)*(2:Rat)^(10:Int)=1:=by rw[← p2_add,show (-10+10:Int)=0 by decide,Rat.zpow_zero]
 have h8:(2:Rat)^(10:Int)=1024:=by rw[show (10:Int)=((10:Nat):Int) by rfl,p2_nat];rfl
 rw[h8]at h7
 grind
def eps:Rat:=(2:Rat)^(-51:Int)
theorem eps_pos:0<eps:=p2_pos _
theorem eps_le:eps≤1/1000:=e51_le
theorem Rnd.le {x z B:Rat} (h:Rnd x z) (hx:x.abs≤B) (hB:(2:Rat)^(-1000:Int)≤B):(z-x).abs≤eps*B:=by
 have h1:=p2_le (show (-53:Int)≤-51 by decide); have h2:=Rat.mul_le_mul_of_nonneg_left h1 (abs_nonneg x); have h3:=Rat.mul_le_mul_of_nonneg_right hx (Rat.le_of_lt eps_pos); have h4:=Rat.mul_le_mul_of_nonneg_right hB (Rat.le_of_lt eps_pos); have h5:(2:Rat)^(-1075:Int)≤(2:Rat)^(-1000:Int)*eps:=by
  unfold eps;rw[← p2_add];exact p2_le (by decide)
 unfold eps at *
 rcases h.near with g|g<;>grind
theorem Rnd2.le {x z B:Rat} (h:Rnd2 x z) (hx:x.abs≤B) (hB:(2:Rat)^(-1000:Int)≤B):(z-x).abs≤eps*B:=by
 have h1:=p2_le (show (-52:Int)≤-51 by decide); have h2:=Rat.mul_le_mul_of_nonneg_left h1 (abs_nonneg x); have h3:=Rat.mul_le_mul_of_nonneg_right hx (Rat.le_of_lt eps_pos); have h4:=Rat.mul_le_mul_of_nonneg_right hB (Rat.le_of_lt eps_pos); have h5:(2:Rat)^(-1074:Int)≤(2:Rat)^(-1000:Int)*eps:=by
  unfold eps;rw[← p2_add];exact p2_le (by decide)
 unfold eps at *
 rcases h.near with g|g<;>grind
theorem abs_div_le {a b B:Rat} (hb:b≠0) (h:a.abs≤B*b.abs):(a/b).abs≤B:=by
 have h1:(a/b*b)=a:=Rat.div_mul_cancel hb; have h2:(a/b).abs*b.abs=a.abs:=by rw[← abs_mul,h1]
 have hb0:0<b.abs:=by
  rcases(Rat.le_total:0≤b∨b≤0) with g|g
  ·rw[Rat.abs_of_nonneg g];grind
  ·rw[Rat.abs_of_nonpos g];grind
 refine Rat.not_lt.1 fun hlt=>?_
 have:=Rat.mul_lt_mul_of_pos_right hlt hb0
 grind
theorem smith {p q r s u v W M K m1 T m2 n U:Rat} (hr:r≠0) (hW:r.abs=W) (hs:s.abs≤W) (hM:0≤M) (hu:u.abs≤M) (hv:v.abs≤M)
  (hp:p=u*r-v*s) (hq:q=u*s+v*r)
  (hK:(K-s/r).abs≤eps) (h1:(m1-s*K).abs≤eps*(2*W)) (hT:(T-(r+m1)).abs≤eps*(3*W))
  (h2:(m2-q*K).abs≤eps*(3*(M*W))) (hn:(n-(p+m2)).abs≤eps*(5*(M*W))) (hT0:T≠0) (hU:(U-n/T).abs≤eps*(2*M)):
  (U-u).abs≤32*(M*eps)∧W*(9/10)≤T.abs∧n.abs≤2*M*T.abs:=by
 have he:=eps_pos; have he2:=eps_le; have hW0:0<W:=by
  rw[← hW]
  rcases(Rat.le_total:0≤r∨r≤0) with g|g
  ·rw[Rat.abs_of_nonneg g];grind
  ·rw[Rat.abs_of_nonpos g];grind
 have hk:(s/r).abs≤1:=abs_div_le hr (by rw[hW];grind); have hkr:s/r*r=s:=Rat.div_mul_cancel hr; generalize s/r=k at *
 have t0:W≤(r+s*k).abs:=by
  have e:r+s*k=r*(1+k*k):=by rw[← hkr];grind
  rw[e,abs_mul,hW,Rat.abs_of_nonneg (by have:=sq_nonneg k;grind)]
  have:=Rat.mul_nonneg (Rat.le_of_lt hW0) (sq_nonneg k)
  grind
 have a1:(s*K-s*k).abs≤W*eps:=by
  rw[show s*K-s*k=s*(K-k) by grind];exact abs_mul_le hs hK
 have a2:(T-(r+s*k)).abs≤6*(W*eps):=by
  have g1:=abs_add_le (T-(r+m1)) (m1-s*K); have g2:=abs_add_le (T-(r+m1)+(m1-s*K)) (s*K-s*k)
  rw[show T-(r+m1)+(m1-s*K)+(s*K-s*k)=T-(r+s*k) by grind]at g2
  grind
 have qa:q.abs≤2*(M*W):=by
  have g1:=abs_mul_le hu hs; have g2:=abs_mul_le hv (show r.abs≤W by grind); have g3:=abs_add_le (u*s) (v*r)
  rw[hq];grind
 have hMW:=Rat.mul_nonneg hM (Rat.le_of_lt hW0); have hMWe:=Rat.mul_nonneg hMW (Rat.le_of_lt he); have a3:(q*K-q*k).abs≤2*(M*W)*eps:=by
  rw[show q*K-q*k=q*(K-k) by grind];exact abs_mul_le qa hK
 have a4:(n-(p+q*k)).abs≤10*(M*W*eps):=by
  have g1:=abs_add_le (n-(p+m2)) (m2-q*K); have g2:=abs_add_le (n-(p+m2)+(m2-q*K)) (q*K-q*k)
  rw[show n-(p+m2)+(m2-q*K)+(q*K-q*k)=n-(p+q*k) by grind]at g2
  grind
 have a5:p+q*k=u*(r+s*k):=by
  rw[hp,hq]
  have:v*r*k=v*s:=by rw[← hkr];grind
  grind
 have a6:(u*(T-(r+s*k))).abs≤M*(6*(W*eps)):=abs_mul_le hu a2; have a7:(n-u*T).abs≤16*(M*W*eps):=by
  have g1:=abs_add_le (n-(p+q*k)) (-(u*(T-(r+s*k))))
  rw[abs_neg]at g1
  rw[show n-(p+q*k)+-(u*(T-(r+s*k)))=n-u*T by rw[a5];grind]at g1
  grind
 have hWe:=Rat.mul_le_mul_of_nonneg_left he2 (Rat.le_of_lt hW0); have a8:W*(9/10)≤T.abs:=by
  have g1:=abs_add_le ((r+s*k)-T) T
  rw[show r+s*k-T+T=r+s*k by grind,abs_sub_comm]at g1
  grind
 have hMe:=Rat.mul_nonneg hM (Rat.le_of_lt he); have a9:(n/T-u).abs≤18*(M*eps):=by
  have e:n/T-u=(n-u*T)/T:=by
   have g1:n/T*T=n:=Rat.div_mul_cancel hT0; have g2:(n-u*T)/T*T=n-u*T:=Rat.div_mul_cancel hT0; have g3:(n/T-u-(n-u*T)/T)*T=0:=by grind
   rcases Rat.mul_eq_zero.1 g3 with h|h
   ·grind
   ·exact absurd h hT0
  rw[e]
  refine abs_div_le hT0 ?_
  have:=Rat.mul_le_mul_of_nonneg_left a8 hMe
  grind
 refine⟨?_,a8,?_⟩
 ·have g1:=abs_add_le (U-n/T) (n/T-u)
  rw[show U-n/T+(n/T-u)=U-u by grind]at g1
  grind
 ·have g1:=abs_add_le (n-u*T) (u*T)
  rw[show n-u*T+u*T=n by grind]at g1
  have g2:=abs_mul_le hu (show T.abs≤T.abs from Rat.le_refl); have g3:=Rat.mul_le_mul_of_nonneg_left a8 hM; have g4:=Rat.mul_le_mul_of_nonneg_left he2 hMW; grind
theorem smith_T {r s W K m1 T:Rat} (hr:r≠0) (hW:r.abs=W) (hs:s.abs≤W)
  (hK:(K-s/r).abs≤eps) (h1:(m1-s*K).abs≤eps*(2*W)) (hT:(T-(r+m1)).abs≤eps*(3*W)):W*(9/10)≤T.abs∧T≠0:=by
 have he:=eps_pos; have he2:=eps_le; have hW0:0<W:=by
  rw[← hW]
  rcases(Rat.le_total:0≤r∨r≤0) with g|g
  ·rw[Rat.abs_of_nonneg g];grind
  ·rw[Rat.abs_of_nonpos g];grind
 have hkr:s/r*r=s:=Rat.div_mul_cancel hr; generalize s/r=k at *
 have t0:W≤(r+s*k).abs:=by
  have e:r+s*k=r*(1+k*k):=by rw[← hkr];grind
  rw[e,abs_mul,hW,Rat.abs_of_nonneg (by have:=sq_nonneg k;grind)]
  have:=Rat.mul_nonneg (Rat.le_of_lt hW0) (sq_nonneg k)
  grind
 have a1:(s*K-s*k).abs≤W*eps:=by
  rw[show s*K-s*k=s*(K-k) by grind];exact abs_mul_le hs hK
 have a2:(T-(r+s*k)).abs≤6*(W*eps):=by
  have g1:=abs_add_le (T-(r+m1)) (m1-s*K); have g2:=abs_add_le (T-(r+m1)+(m1-s*K)) (s*K-s*k)
  rw[show T-(r+m1)+(m1-s*K)+(s*K-s*k)=T-(r+s*k) by grind]at g2
  grind
 have hWe:=Rat.mul_le_mul_of_nonneg_left he2 (Rat.le_of_lt hW0); have a8:W*(9/10)≤T.abs:=by
  have g1:=abs_add_le ((r+s*k)-T) T
  rw[show r+s*k-T+T=r+s*k by grind,abs_sub_comm]at g1
  grind
 refine⟨a8,fun h=>?_⟩
 rw[h,abs_zero]at a8
 grind
theorem abs_near {x y e:Rat} (h:(x-y).abs≤e):x.abs≤y.abs+e:=by
 have:=abs_add_le (x-y) y
 rw[show x-y+y=x by grind]at this
 grind
theorem smith_part {hb tb nb:Nat} {p q r s u v W M K m1 T m2 n:Rat} (hr:r≠0) (hW:r.abs=W) (hs:s.abs≤W) (hu:u.abs≤M) (hv:v.abs≤M)
  (hp:p=u*r-v*s) (hq:q=u*s+v*r) (M1:(2:Rat)^(-300:Int)≤M) (M2:M≤(2:Rat)^(300:Int))
  (hK:(K-s/r).abs≤eps) (h1:(m1-s*K).abs≤eps*(2*W)) (hT:(T-(r+m1)).abs≤eps*(3*W))
  (h2:(m2-q*K).abs≤eps*(3*(M*W))) (hn:(n-(p+m2)).abs≤eps*(5*(M*W))) (it:Is tb T) (inn:Is nb n):
  ∃ w U,fbF .quo nb tb=some w∧Is w U∧(U-u).abs≤32*(M*eps):=by
 have hM0:0<M:=by have:=p2_pos (-300);grind
 obtain⟨_,hT0⟩:=smith_T hr hW hs hK h1 hT
 have z:(n/T-n/T).abs≤eps*(2*M):=by
  rw[Rat.sub_self,abs_zero]
  exact Rat.mul_nonneg (Rat.le_of_lt eps_pos) (by grind)
 obtain⟨_,b1,b2⟩:=smith hr hW hs (Rat.le_of_lt hM0) hu hv hp hq hK h1 hT h2 hn hT0 z
 have hq':(n/T).abs≤2*M:=abs_div_le hT0 b2
 obtain⟨w,U,e1,i1,q1⟩:=div_is inn it hT0 (by
  have g1:=p2_le (show (301:Int)≤1021 by decide); have g2:=p2_half 301
  rw[show (301-1:Int)=300 by decide]at g2
  have g3:=p2_half 1022
  rw[show (1022-1:Int)=1021 by decide]at g3
  have:=p2_pos 1021
  grind)
 have hB:(2:Rat)^(-1000:Int)≤2*M:=by have:=p2_le (show (-1000:Int)≤-300 by decide);grind
 have:=q1.le hq' hB
 exact⟨w,U,e1,i1,(smith hr hW hs (Rat.le_of_lt hM0) hu hv hp hq hK h1 hT h2 hn hT0 this).1⟩
theorem divK_near {a b c d:Nat} {p q r s u v W M:Rat} (ip:Is a p) (iq:Is b q) (ir:Is c r) (is_:Is d s)
  (hr:r.abs≤W) (hs:s.abs≤W) (hW:W=r.abs∨W=s.abs) (W1:(2:Rat)^(-300:Int)≤W) (W2:W≤(2:Rat)^(300:Int))
  (hu:u.abs≤M) (hv:v.abs≤M) (M1:(2:Rat)^(-300:Int)≤M) (M2:M≤(2:Rat)^(300:Int)) (hp:p=u*r-v*s) (hq:q=u*s+v*r):
  ∃ w1 w2 U V,Is w1 U∧Is w2 V∧(U-u).abs≤32*(M*eps)∧(V-v).abs≤32*(M*eps)∧∀(R:Type) (k:Nat→Nat→Option R),divK R a b c d k=k w1 w2:=by
 have he:=eps_pos; have he2:=eps_le; have hW0:0<W:=by have:=p2_pos (-300);grind
 have hM0:0<M:=by have:=p2_pos (-300);grind
 have hMW0:=Rat.mul_pos hM0 hW0; have hMWlo:(2:Rat)^(-600:Int)≤M*W:=by
  have g1:=Rat.mul_le_mul_of_nonneg_left W1 (Rat.le_of_lt hM0); have g2:=Rat.mul_le_mul_of_nonneg_right M1 (Rat.le_of_lt (p2_pos (-300)))
  rw[← p2_add,show (-300+-300:Int)=-600 by decide]at g2
  grind
 have hMWhi:M*W≤(2:Rat)^(600:Int):=by
  have g1:=Rat.mul_le_mul_of_nonneg_left W2 (Rat.le_of_lt hM0); have g2:=Rat.mul_le_mul_of_nonneg_right M2 (Rat.le_of_lt (p2_pos 300))
  rw[← p2_add,show (300+300:Int)=600 by decide]at g2
  grind
 have p600:=p2_le (show (-1000:Int)≤-600 by decide); have p300:=p2_le (show (-1000:Int)≤-300 by decide); have big:∀{x:Rat},x.abs≤10*(2:Rat)^(600:Int)→x.abs<(2:Rat)^(1023:Int):=fun{x} h=>by
  have g1:=p2_le (show (604:Int)≤1022 by decide); have g2:(2:Rat)^(604:Int)=16*(2:Rat)^(600:Int):=by
   rw[show (604:Int)=((4:Nat):Int)+600 by decide,p2_add,p2_nat];rfl
  have g3:=p2_half 1023
  rw[show (1023-1:Int)=1022 by decide]at g3
  have:=p2_pos 600
  have:=p2_pos 1022
  grind
 have p300b:W≤(2:Rat)^(600:Int):=Rat.le_trans W2 (p2_le (by decide)); have pa:p.abs≤2*(M*W):=by
  have g1:=abs_mul_le hu hr; have g2:=abs_mul_le hv hs; have g3:=abs_add_le (u*r) (-(v*s))
  rw[abs_neg,show u*r+-(v*s)=p by grind]at g3
  grind
 have qa:q.abs≤2*(M*W):=by
  have g1:=abs_mul_le hu hs; have g2:=abs_mul_le hv hr; have g3:=abs_add_le (u*s) (v*r)
  rw[← hq]at g3
  grind
 have hMWe:=Rat.mul_le_mul_of_nonneg_left he2 (Rat.le_of_lt hMW0); have hWe:=Rat.mul_le_mul_of_nonneg_left he2 (Rat.le_of_lt hW0); have small1:(1:Rat)<(2:Rat)^(1022:Int):=by
  have g1:=p2_le (show (1:Int)≤1022 by decide)
  rw[p2_one]at g1
  grind
 have hdef:∀(R:Type) (k:Nat→Nat→Option R),divK R a b c d k=forceB (geF (absW c) (absW d)) fun t=>match t with
  |true=>bindF (fbF .quo d c) fun h=>bindF (fbF .mul d h) fun sh=>bindF (fbF .add c sh) fun t=>
    bindF (fbF .mul b h) fun qh=>bindF (fbF .add a qh) fun n1=>bindF (fbF .quo n1 t) fun re=>
    bindF (fbF .mul a h) fun ph=>bindF (fbF .sub b ph) fun n2=>bindF (fbF .quo n2 t) fun im=>k re im
  |false=>bindF (fbF .quo c d) fun h=>bindF (fbF .mul c h) fun rh=>bindF (fbF .add rh d) fun t=>
    bindF (fbF .mul a h) fun ph=>bindF (fbF .add ph b) fun n1=>bindF (fbF .quo n1 t) fun re=>
    bindF (fbF .mul b h) fun qh=>bindF (fbF .sub qh a) fun n2=>bindF (fbF .quo n2 t) fun im=>k re im:=fun R k=>rfl
 have prod:∀{w h:Nat} {x K:Rat} {B:Rat},Is w x→Is h K→K.abs≤1001/1000→x.abs≤B→(2:Rat)^(-600:Int)≤B→B≤2*(2:Rat)^(600:Int)→
   ∃ o m,fbF .mul w h=some o∧Is o m∧(m-x*K).abs≤eps*(3/2*B)∧m.abs≤101/100*B:=fun{w h x K B} i1 i2 hK hx hB hB2=>by
  have g1:=abs_mul_le hx hK; have hB0:0<B:=by have:=p2_pos (-600);grind
  obtain⟨o,m,e1,e2,e3⟩:=mul_is i1 i2 (big (by grind))
  have g2:=e3.le (B:=3/2*B) (by grind) (by grind); have g3:=Rat.mul_le_mul_of_nonneg_left he2 (show (0:Rat)≤3/2*B by grind); have g4:=abs_near g2
  exact⟨o,m,e1,e2,g2,by grind⟩
 by_cases hc:s.abs≤r.abs
 ·have hWr:W=r.abs:=by rcases hW with h|h<;>grind
  have hr0:r≠0:=by rintro rfl;rw[abs_zero]at hWr;grind
  have hk1:(s/r).abs≤1:=abs_div_le hr0 (by grind)
  obtain⟨h,K,e1,i1,q1⟩:=div_is is_ ir hr0 (by grind)
  have hK:=q1.le hk1 (by have:=p2_le (show (-1000:Int)≤0 by decide);rwa [Rat.zpow_zero]at this)
  rw[Rat.mul_one]at hK
  have hKa:K.abs≤1001/1000:=by have:=abs_near hK;grind
  obtain⟨sh,m1,e2,i2,q2,b2⟩:=prod is_ i1 hKa hs (by have:=p2_le (show (-600:Int)≤-300 by decide);grind) (by have:=p2_pos 600;grind)
  have hrm:(r+m1).abs≤3*W:=by have:=abs_add_le r m1;grind
  obtain⟨t,T,e3,i3,q3⟩:=add_is ir i2 (big (by grind))
  have hT:=q3.le hrm (by grind)
  obtain⟨qh,m2,e4,i4,q4,b4⟩:=prod iq i1 hKa qa (by grind) (by grind)
  have hpm:(p+m2).abs≤5*(M*W):=by have:=abs_add_le p m2;grind
  obtain⟨n1,N1,e5,i5,q5⟩:=add_is ip i4 (big (by grind))
  have hn1:=q5.le hpm (by grind); have epW:=Rat.mul_nonneg (Rat.le_of_lt he) (Rat.le_of_lt hW0); have epMW:=Rat.mul_nonneg (Rat.le_of_lt he) (Rat.le_of_lt hMW0)
  obtain⟨w1,U,e6,i6,g6⟩:=smith_part (hb:=h) hr0 hWr.symm hs hu hv hp hq M1 M2 hK (by grind) hT (by grind) hn1 i3 i5
  obtain⟨ph,m3,e7,i7,q7,b7⟩:=prod ip i1 hKa pa (by grind) (by grind)
  have hqm:(q-m3).abs≤5*(M*W):=by
   have:=abs_add_le q (-m3)
   rw[abs_neg,show q+-m3=q-m3 by grind]at this
   grind
  obtain⟨n2,N2,e8,i8,q8⟩:=sub_is iq i7 (big (by grind))
  have hn2:=q8.le hqm (by grind)
  obtain⟨w2,V,e9,i9,g9⟩:=smith_part (hb:=h) (p:=q) (q:=-p) (u:=v) (v:=-u) (m2:=-m3) hr0 hWr.symm hs hv (by rw[abs_neg];exact hu) (by rw[hq];grind) (by rw[hp];grind) M1 M2 hK (by grind) hT
   (by rw[show -m3 - -p*K=-(m3-p*K) by grind,abs_neg];grind) (by rw[show q+-m3=q-m3 by grind];exact hn2) i3 i8
  refine⟨w1,w2,U,V,i6,i9,g6,g9,fun R k=>?_⟩
  rw[hdef,forceB_eq,geF_is (abs_is ir) (abs_is is_)]
  simp only[hc,decide_true]
  rw[bindF_eq e1,bindF_eq e2,bindF_eq e3,bindF_eq e4,bindF_eq e5,bindF_eq e6,bindF_eq e7,bindF_eq e8,bindF_eq e9]
 ·have hWs:W=s.abs:=by rcases hW with h|h<;>grind
  have hs0:s≠0:=by rintro rfl;rw[abs_zero]at hWs;grind
  have hk1:(r/s).abs≤1:=abs_div_le hs0 (by grind)
  obtain⟨h,K,e1,i1,q1⟩:=div_is ir is_ hs0 (by grind)
  have hK:=q1.le hk1 (by have:=p2_le (show (-1000:Int)≤0 by decide);rwa [Rat.zpow_zero]at this)
  rw[Rat.mul_one]at hK
  have hKa:K.abs≤1001/1000:=by have:=abs_near hK;grind
  obtain⟨rh,m1,e2,i2,q2,b2⟩:=prod ir i1 hKa hr (by have:=p2_le (show (-600:Int)≤-300 by decide);grind) (by have:=p2_pos 600;grind)
  have hrm:(m1+s).abs≤3*W:=by have:=abs_add_le m1 s;grind
  obtain⟨t,T,e3,i3,q3⟩:=add_is i2 is_ (big (by grind))
  have hT:=q3.le hrm (by grind)
  obtain⟨ph,m2,e4,i4,q4,b4⟩:=prod ip i1 hKa pa (by grind) (by grind)
  have hpm:(m2+q).abs≤5*(M*W):=by have:=abs_add_le m2 q;grind
  obtain⟨n1,N1,e5,i5,q5⟩:=add_is i4 iq (big (by grind))
  have hn1:=q5.le hpm (by grind); have epW:=Rat.mul_nonneg (Rat.le_of_lt he) (Rat.le_of_lt hW0); have epMW:=Rat.mul_nonneg (Rat.le_of_lt he) (Rat.le_of_lt hMW0); have hK':(-K - -r/s).abs≤eps:=by
   have:-K - -r/s=-(K-r/s):=by
    have g1:-r/s*s=-r:=Rat.div_mul_cancel hs0; have g2:r/s*s=r:=Rat.div_mul_cancel hs0; have g3:(-r/s+r/s)*s=0:=by grind
    rcases Rat.mul_eq_zero.1 g3 with h|h
    ·grind
    ·exact absurd h hs0
   rw[this,abs_neg];exact hK
  have h1':(m1 - -r*-K).abs≤eps*(2*W):=by rw[show m1 - -r*-K=m1-r*K by grind];grind
  have hT':(T-(s+m1)).abs≤eps*(3*W):=by rw[show s+m1=m1+s by grind];exact hT
  obtain⟨w1,U,e6,i6,g6⟩:=smith_part (hb:=h) (p:=q) (q:=-p) (r:=s) (s:=-r) (u:=u) (v:=v) (K:=-K) hs0 hWs.symm (by rw[abs_neg];exact hr) hu hv (by rw[hq];grind) (by rw[hp];grind) M1 M2 hK' h1' hT'
   (by rw[show m2 - -p*-K=m2-p*K by grind];grind) (by rw[show q+m2=m2+q by grind];exact hn1) i3 i5
  obtain⟨qh,m3,e7,i7,q7,b7⟩:=prod iq i1 hKa qa (by grind) (by grind)
  have hqm:(m3-p).abs≤5*(M*W):=by
   have:=abs_add_le m3 (-p)
   rw[abs_neg,show m3+-p=m3-p by grind]at this
   grind
  obtain⟨n2,N2,e8,i8,q8⟩:=sub_is i7 ip (big (by grind))
  have hn2:=q8.le hqm (by grind)
  obtain⟨w2,V,e9,i9,g9⟩:=smith_part (hb:=h) (p:=-p) (q:=-q) (r:=s) (s:=-r) (u:=v) (v:=-u) (K:=-K) (m2:=m3) hs0 hWs.symm (by rw[abs_neg];exact hr) hv (by rw[abs_neg];exact hu) (by rw[hp];grind) (by rw[hq];grind) M1 M2 hK' h1' hT'
   (by rw[show m3 - -q*-K=m3-q*K by grind];grind) (by rw[show -p+m3=m3-p by grind];exact hn2) i3 i8
  refine⟨w1,w2,U,V,i6,i9,g6,g9,fun R k=>?_⟩
  rw[hdef,forceB_eq,geF_is (abs_is ir) (abs_is is_)]
  simp only[hc,decide_false]
  rw[bindF_eq e1,bindF_eq e2,bindF_eq e3,bindF_eq e4,bindF_eq e5,bindF_eq e6,bindF_eq e7,bindF_eq e8,bindF_eq e9]
theorem eps_tiny:eps*1000000000≤1:=by
 have h6:=p2_le (show (-51:Int)≤-30 by decide); have h7:(2:Rat)^(-30:Int)*(2:Rat)^(30:Int)=1:=by rw[← p2_add,show (-30+30:Int)=0 by decide,Rat.zpow_zero]
 have h8:(2:Rat)^(30:Int)=1073741824:=by rw[show (30:Int)=((30:Nat):Int) by rfl,p2_nat];rfl
 rw[h8]at h7
 unfold eps; grind
structure Cq where
 x:Rat
 y:Rat
namespace Cq
end Cq
open Cq
open Ieee Cq
theorem is_two:Is 4611686018427387904 2:=by
 have:=fields_is (s:=false) (E:=1024) (f:=0) (by decide) (by decide) (by decide)
 have e:dv false (2^52+0) (((1024:Nat):Int)-1075)=2:=by
  unfold dv sg
  rw[if_neg (by decide),Rat.one_mul,Nat.add_zero,← p2_nat,← p2_add]
  show (2:Rat)^(1:Int)=2; exact p2_one
 rw[e]at this
 exact this
theorem is0:Is 0 0:=⟨by decide,false,0,-1074,by decide,dv_zero _ _⟩
theorem z_sub (R:Type) a b c d (k:Value→Option R):evFn (cx Tryz.prog []) 10 35 [.complex .f64 a b,.complex .f64 c d] k=subK R a b c d fun x y=>k (.complex .f64 x y):=by kernel_rfl
theorem z_mul (R:Type) a b c d (k:Value→Option R):evFn (cx Tryz.prog []) 10 43 [.complex .f64 a b,.complex .f64 c d] k=mulK R a b c d fun x y=>k (.complex .f64 x y):=by kernel_rfl
theorem z_add (R:Type) a b c d (k:Value→Option R):evFn (cx Tryz.prog []) 10 26 [.complex .f64 a b,.complex .f64 c d] k=addK R a b c d fun x y=>k (.complex .f64 x y):=by kernel_rfl
theorem z_neg (R:Type) a b (k:Value→Option R):evFn (cx Tryz.prog []) 10 45 [.complex .f64 a b] k=negK R a b fun x y=>k (.complex .f64 x y):=by kernel_rfl
theorem z_abs (R:Type) a (k:Value→Option R):evFn (cx Tryz.prog []) 10 21 [.float .f64 a] k=absK R a fun t=>k (.float .f64 t):=by kernel_rfl
theorem z_within (ab:KFF) (R:Type) a b (k:Value→Option R):evFn (cx Tryz.prog [(21,sFF ab)]) 10 113 [.float .f64 a,.float .f64 b] k=withinB ab R a b fun t=>k (.bool t):=by kernel_rfl
theorem z_Within (wi:KFFB) (R:Type) a b c (k:Value→Option R):evFn (cx Tryz.prog [(113,sFFB wi)]) 10 92 [.complex .f64 a b,.float .f64 c] k=WithinB wi R a b c fun t=>k (.bool t):=by kernel_rfl
theorem zm_ok:Tryz.prog.follows .mixedOrders=true:=by kernel_rfl
theorem h21:Has Tryz.prog 35:=⟨Tryz.f35,_,Tryz.func35,by kernel_rfl,rfl⟩
theorem h22:Has Tryz.prog 43:=⟨Tryz.f43,_,Tryz.func43,by kernel_rfl,rfl⟩
theorem h53:Has Tryz.prog 21:=⟨Tryz.f21,_,Tryz.func21,by kernel_rfl,rfl⟩
theorem h80:Has Tryz.prog 113:=⟨Tryz.f113,_,Tryz.func113,by kernel_rfl,rfl⟩
theorem h84:Has Tryz.prog 26:=⟨Tryz.f26,_,Tryz.func26,by kernel_rfl,rfl⟩
theorem h86:Has Tryz.prog 45:=⟨Tryz.f45,_,Tryz.func45,by kernel_rfl,rfl⟩
theorem h135:Has Tryz.prog 92:=⟨Tryz.f92,_,Tryz.func92,by kernel_rfl,rfl⟩
section shapes
variable {P:Program} {l:List (Nat×Sum)} {n:Nat} {f:FuncId}
end shapes
theorem k21:SumOk Tryz.prog 35 (sCCC subK):=ok_sCCC zm_ok .nil z_sub
theorem k22:SumOk Tryz.prog 43 (sCCC mulK):=ok_sCCC zm_ok .nil z_mul
theorem k84:SumOk Tryz.prog 26 (sCCC addK):=ok_sCCC zm_ok .nil z_add
theorem k86:SumOk Tryz.prog 45 (sCC negK):=ok_sCC zm_ok .nil z_neg
theorem k53:SumOk Tryz.prog 21 (sFF absK):=ok_sFF zm_ok .nil z_abs
theorem k80:SumOk Tryz.prog 113 (sFFB withinK):=ok_sFFB zm_ok (.cons k53 h53 .nil) (z_within _)
theorem k135:SumOk Tryz.prog 92 (sCFB WithinK):=ok_sCFB zm_ok (.cons k80 h80 .nil) (z_Within _)
theorem z_isInf (ab:KFF) (R:Type) a (k:Value→Option R):evFn (cx Tryz.prog [(21,sFF ab)]) 20 73 [.float .f64 a,.int .i64 0] k=isInfB ab R a fun t=>k (.bool t):=by kernel_rfl
theorem z_isNan (R:Type) a (k:Value→Option R):evFn (cx Tryz.prog []) 20 75 [.float .f64 a] k=isNanK R a fun t=>k (.bool t):=by kernel_rfl
theorem z_norm (ab:KFF) (R:Type) a (k:Value→Option R):evFn (cx Tryz.prog [(21,sFF ab)]) 20 125 [.float .f64 a] k=normB ab R a fun x e=>k (.tuple ⟨[.float .f64 x,.int .i64 e]⟩):=by kernel_rfl
theorem z_frexp (fi:Fi) (inf nan:KFB) (nm:KFFI) (R:Type) a (k:Value→Option R):evFn (cxf fi Tryz.prog [(73,sInf inf),(75,sFB nan),(125,sFFI nm)] []) 30 117 [.float .f64 a] k=frexpB fi inf nan nm R a fun x e=>k (.tuple ⟨[.float .f64 x,.int .i64 e]⟩):=by kernel_rfl
theorem z_copy (R:Type) a b (k:Value→Option R):evFn (cx Tryz.prog []) 30 126 [.float .f64 a,.float .f64 b] k=copyK R a b fun x=>k (.float .f64 x):=by kernel_rfl
theorem z_ldexp (fi:Fi) (cp:KFFF) (inf nan:KFB) (nm:KFFI) (R:Type) a n (k:Value→Option R):evFn (cxf fi Tryz.prog [(73,sInf inf),(75,sFB nan),(125,sFFI nm),(126,sFFF cp),(74,sNever)] []) 30 119 [.float .f64 a,.int .i64 n] k=ldexpB fi cp inf nan nm R a n fun x=>k (.float .f64 x):=by kernel_rfl
theorem z_Frexp (fr:KFFI) (R:Type) a (k:Value→Option R):evFn (cx Tryz.prog [(117,sFFI fr)]) 30 94 [.float .f64 a] k=fr R a fun x e=>k (.tuple ⟨[.float .f64 x,.int .i64 e]⟩):=by kernel_rfl
theorem z_Ldexp (ld:KFIF) (R:Type) a n (k:Value→Option R):evFn (cx Tryz.prog [(119,sFIF ld)]) 30 95 [.float .f64 a,.int .i64 n] k=ld R a n fun x=>k (.float .f64 x):=by kernel_rfl
theorem z_Parts (fr:KFFI) (R:Type) a (k:Value→Option R):evFn (cx Tryz.prog [(94,sFFI fr)]) 30 111 [.float .f64 a] k=fr R a fun x e=>k (.tuple ⟨[.float .f64 x,.int .i64 e]⟩):=by kernel_rfl
theorem z_scale (ld:KFIF) (R:Type) a n (k:Value→Option R):evFn (cx Tryz.prog [(95,sFIF ld)]) 30 79 [.float .f64 a,.int .i64 n] k=scaleB ld R a n fun x=>k (.float .f64 x):=by kernel_rfl
theorem z_greatest (ab:KFF) (R:Type) a b (k:Value→Option R):evFn (cx Tryz.prog [(21,sFF ab)]) 30 77 [.complex .f64 a b] k=greatestB ab R a b fun x=>k (.float .f64 x):=by kernel_rfl
theorem z_scaled (gr:KCF) (pa:KFFI) (sc:KFIF) (R:Type) a b (k:Value→Option R):evFn (cx Tryz.prog [(77,sCF gr),(111,sFFI pa),(79,sFIF sc)]) 30 78 [.complex .f64 a b] k=scaledB gr pa sc R a b fun x y e=>k (.tuple ⟨[.complex .f64 x y,.int .i64 e]⟩):=by kernel_rfl
theorem z_square (R:Type) a b (k:Value→Option R):evFn (cx Tryz.prog []) 30 81 [.complex .f64 a b] k=squareK R a b fun x=>k (.float .f64 x):=by kernel_rfl
theorem z_length (inf nan:KFB) (gr:KCF) (sd:KCCI) (sq:KCF) (rt:KFF) (sc:KFIF) (R:Type) a b (k:Value→Option R):evFn (cx Tryz.prog [(73,sInf inf),(75,sFB nan),(77,sCF gr),(78,sCCI sd),(81,sCF sq),(80,sFF rt),(79,sFIF sc),(74,sNever),(76,sNever)]) 30 29 [.complex .f64 a b] k=lengthB inf nan gr sd sq rt sc R a b fun x=>k (.float .f64 x):=by kernel_rfl
theorem z_near (sub:KCCC) (len:KCF) (R:Type) a b c d m (k:Value→Option R):evFn (cx Tryz.prog [(35,sCCC sub),(29,sCF len)]) 30 17 [.complex .f64 a b,.complex .f64 c d,.float .f64 m] k=nearB sub len R a b c d m fun t=>k (.bool t):=by kernel_rfl
theorem z_finite (ab:KFF) (R:Type) a (k:Value→Option R):evFn (cx Tryz.prog [(21,sFF ab)]) 30 93 [.float .f64 a] k=finiteB ab R a fun t=>k (.bool t):=by kernel_rfl
theorem z_Finite (fi:KFB) (R:Type) a b (k:Value→Option R):evFn (cx Tryz.prog [(93,sFB fi)]) 30 91 [.complex .f64 a b] k=FiniteB fi R a b fun t=>k (.bool t):=by kernel_rfl
theorem z_div (ab:KFF) (R:Type) a b c d (k:Value→Option R):evFn (cx Tryz.prog [(21,sFF ab)]) 30 89 [.complex .f64 a b,.complex .f64 c d] k=divB ab R a b c d fun x y=>k (.complex .f64 x y):=by kernel_rfl
end Go.Vm
