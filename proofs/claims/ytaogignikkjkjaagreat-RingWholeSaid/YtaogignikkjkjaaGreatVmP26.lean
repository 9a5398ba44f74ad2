/- A part of the evaluator and of what is told of floats; no conditions. -/
import Derived.Test.YtaogignikkjkjaaGreatVmRA7
import Derived.Test.YtaogignikkjkjaaGreatVmZX
import Derived.Test.YtaogignikkjkjaaGreatVmZ9
import Derived.Test.YtaogignikkjkjaaGreatVmP4
import Derived.Test.YtaogignikkjkjaaGreatProg
set_option linter.unusedSimpArgs false
set_option linter.unusedVariables false
set_option maxRecDepth 1000000
set_option linter.unusedSectionVars false
namespace Go.Vm
open Ieee
theorem dv_sign {s:Bool} {m:Nat} {i:Int} (h:0<dv s m i):s=false:=by
 cases s with
 |false=>rfl
 |true=>
  have h1:dv true m i≤0:=by
   unfold dv sg
   have:=Rat.mul_nonneg (show (0:Rat)≤(m:Rat) by exact_mod_cast Nat.zero_le m) (Rat.le_of_lt (p2_pos i))
   simp only[if_true]
   grind
  grind
theorem dv_sign' {s:Bool} {m:Nat} {i:Int} (h:dv s m i<0):s=true:=by
 cases s with
 |true=>rfl
 |false=>
  have h1:0≤dv false m i:=by
   unfold dv sg
   have:=Rat.mul_nonneg (show (0:Rat)≤(m:Rat) by exact_mod_cast Nat.zero_le m) (Rat.le_of_lt (p2_pos i))
   simp only[Bool.false_eq_true,if_false]
   grind
  grind
theorem cut_bound {s:Bool} {m:Nat} {i:Int} {B:Nat} (h:(dv s m i).abs≤((B:Nat):Rat)):Toward.even.cut s (m <<< i.toNat) (-i).toNat≤B+1:=by
 have h4:=(cut_spec s (m <<< i.toNat) (-i).toNat).2.2.2; have h5:(m <<< i.toNat)/2^(-i).toNat≤B:=by
  rw[dv_abs]at h
  have hn:m <<< i.toNat≤B*2^(-i).toNat:=by
   have e1:((m <<< i.toNat:Nat):Rat)=(m:Rat)*(2:Rat)^i*(2:Rat)^(((-i).toNat:Nat):Int):=by
    rw[Nat.shiftLeft_eq,Rat.mul_assoc,← p2_add]
    push_cast
    rw[show i+((-i).toNat:Int)=((i.toNat:Nat):Int) by omega,p2_nat]
    push_cast; rfl
   have e2:((m <<< i.toNat:Nat):Rat)≤((B*2^(-i).toNat:Nat):Rat):=by
    rw[e1]
    push_cast
    rw[p2_nat]
    push_cast
    have:=Rat.mul_le_mul_of_nonneg_right h (Rat.le_of_lt (p2_pos (((-i).toNat:Nat):Int)))
    rw[p2_nat]at this
    push_cast at this; exact this
   exact_mod_cast e2
  exact Nat.div_le_of_le_mul (by rw[Nat.mul_comm];exact hn)
 omega
theorem toInt_is {w:Nat} {N:Int} (h:Is w N) (hN:N.natAbs<2^53):floatToIntVal .f64 w .i64=some N:=by
 obtain⟨hw,s,m,i,h1,h2⟩:=h
 have hn:m <<< i.toNat=N.natAbs*2^(-i).toNat:=by
  have e0:((m:Nat):Rat)*(2:Rat)^i=((N.natAbs:Nat):Rat):=by
   have:=congrArg Rat.abs h2
   rw[dv_abs,int_abs]at this
   exact this
  have e1:((m <<< i.toNat:Nat):Rat)=(m:Rat)*(2:Rat)^i*(2:Rat)^(((-i).toNat:Nat):Int):=by
   rw[Nat.shiftLeft_eq,Rat.mul_assoc,← p2_add]
   push_cast
   rw[show i+((-i).toNat:Int)=((i.toNat:Nat):Int) by omega,p2_nat]
   push_cast; rfl
  have e2:((m <<< i.toNat:Nat):Rat)=((N.natAbs*2^(-i).toNat:Nat):Rat):=by
   rw[e1,e0,p2_nat]
   push_cast; rfl
  exact_mod_cast e2
 have hcut:Toward.zero.cut s (m <<< i.toNat) (-i).toNat=N.natAbs:=by
  unfold Toward.cut; simp only[Bool.toNat_false,Nat.add_zero]; by_cases h0:N.natAbs=0
  ·rw[hn,h0];simp
  ·have hge:2^(-i).toNat≤m <<< i.toNat:=by rw[hn];exact Nat.le_mul_of_pos_left _ (by omega)
   have hlog:(-i).toNat≤(m <<< i.toNat).log2:=(Nat.le_log2 (by have:=Nat.two_pow_pos (-i).toNat;omega)).2 hge
   rw[Nat.min_eq_left (by omega),hn,show 1 <<< (-i).toNat=2^(-i).toNat by rw[Nat.shiftLeft_eq,Nat.one_mul]]
   exact Nat.mul_div_cancel _ (Nat.two_pow_pos _)
 have hsg:signed s N.natAbs 0=N:=by
  unfold signed
  rw[Nat.shiftLeft_zero]
  by_cases h0:N=0
  ·subst h0;cases s<;>rfl
  ·cases s with
   |false=>
    have:0≤N:=by
     refine Int.not_lt.1 fun hlt=>?_
     have:((N:Int):Rat)<0:=by exact_mod_cast hlt
     have:=dv_sign' (s:=false) (m:=m) (i:=i) (by rw[h2];exact this)
     cases this
    simp only[Bool.false_eq_true,if_false]
    omega
   |true=>
    have:N≤0:=by
     refine Int.not_lt.1 fun hlt=>?_
     have:(0:Rat)<((N:Int):Rat):=by exact_mod_cast hlt
     have:=dv_sign (s:=true) (m:=m) (i:=i) (by rw[h2];exact this)
     cases this
    simp only[if_true]
    omega
 unfold floatToIntVal; have hd:FloatKind.f64.decode w=.number s m i:=h1
 rw[hd]
 simp only[Datum.toInt,Datum.integral,hcut,hsg]
 rw[if_pos]
 constructor
 ·show (-9223372036854775808:Int)≤N; omega
 ·show N≤9223372036854775807; omega
theorem is_p20:Is 4697254411347427328 (((2^20:Int)):Rat):=by
 have:=ofInt_is (n:=2^20) (by decide)
 rw[show floatOfInt .f64 (2^20)=4697254411347427328 by decide]at this
 exact this
theorem fitK_yes {w:Nat} {x:Rat} (h:Is w x) (hx:x.abs≤100) {R:Type} (k:Bool→Option R):fitK R w k=k true:=by
 have e:fitK R w k=forceB (leF (absW w) 4697254411347427328) fun t=>forceB t fun t=>forceB t fun t=>k t:=rfl
 rw[e,forceB_eq,leF_is (abs_is h) is_p20]
 have:x.abs≤((2^20:Int):Rat):=by
  have:((2^20:Int):Rat)=1048576:=by rw[show (2^20:Int)=1048576 by decide];rfl
  rw[this];grind
 simp only[this,decide_true,forceB_eq]
theorem read_not {w:Nat} (h:finW w=false):double.read (absW w)=.infinity false∨∃ t,double.read (absW w)=.nan false t:=by
 have e1:double.signWeight=9223372036854775808:=by decide
 have e2:double.binade=4503599627370496:=by decide
 have e3:double.infRung=9218868437227405312:=by decide
 unfold finW at h
 rw[nl]at h
 have hE:¬ expoW w<2047:=by simpa using h
 have hEe:expoW w=w/4503599627370496 % 2048:=rfl
 rw[absW_eq]
 have hm:w % 2^63=w % 9223372036854775808:=rfl
 rw[hm]
 have hge:9218868437227405312≤w % 9223372036854775808:=by omega
 have h64:w % 9223372036854775808<9223372036854775808:=Nat.mod_lt _ (by decide); generalize w % 9223372036854775808=r at *
 unfold Format.read; simp only[e1,e2,e3]; have hr:r % 9223372036854775808=r:=Nat.mod_eq_of_lt h64; have hs:(r/9223372036854775808 % 2 == 1)=false:=by rw[Nat.div_eq_of_lt h64];rfl
 rw[hr,hs,if_neg (by omega),if_neg (by omega)]
 by_cases he:r=9218868437227405312
 ·rw[if_pos he];exact .inl rfl
 ·rw[if_neg he];exact .inr ⟨_,rfl⟩
theorem within_is {p:Nat} (hp:p<2^64) (h:leF (absW p) 4787326403894837248=true):∃ P,Is p P∧P.abs≤((2^40:Int):Rat):=by
 cases hf:finW p with
 |true=>
  have hi:Is p (dv (sgnW p) (mantW p) ((plcW p:Int)-1074)):=⟨hp,_,_,_,read_fast hf,rfl⟩
  refine⟨_,hi,?_⟩
  rw[leF_is (abs_is hi) is_p40]at h
  simpa using h
 |false=>
  exfalso; unfold leF at h
  rw[ordW_eq]at h
  unfold Format.order at h
  rw[show double.read 4787326403894837248=.number false 4503599627370496 (-12) by decide]at h
  rcases read_not hf with g|⟨t,g⟩<;>(rw[g]at h;cases h)
def wholeW (p:Nat):Nat:=double.write ((double.read p).integral .zero)
theorem wholeK_eq {p:Nat} {P:Rat} (h:Is p P) {R:Type} (k:Bool→Option R):wholeK R p k=k (eqF (wholeW p) p):=by
 obtain⟨hw,s,m,i,h1,rfl⟩:=h
 unfold wholeK wholeB roundK wholeW
 rw[h1]
 simp only
 rw[forceN_eq,forceB_eq]
theorem lit_is {w:Nat} {n:Int} (h:floatOfInt .f64 n=w) (hn:n.natAbs<2^53):Is w n:=by rw[← h];exact ofInt_is hn
theorem l1:Is 4607182418800017408 ((1:Int):Rat):=lit_is (by decide) (by decide)
theorem l2:Is 4611686018427387904 ((2:Int):Rat):=lit_is (by decide) (by decide)
theorem l3:Is 4613937818241073152 ((3:Int):Rat):=lit_is (by decide) (by decide)
theorem l4:Is 4616189618054758400 ((4:Int):Rat):=lit_is (by decide) (by decide)
theorem quarter_is:Is 4598175219545276416 (1/4:Rat):=by
 refine⟨by decide,false,4503599627370496,-54,by decide,?_⟩
 unfold dv sg
 rw[if_neg (by decide),Rat.one_mul,show ((4503599627370496:Nat):Rat)=(2:Rat)^((52:Nat):Int) by rw[p2_nat],← p2_add,show ((52:Nat):Int)+-54=-2 by decide]
 have h:=p2_add (-2) 2
 rw[show (-2:Int)+2=0 by decide,Rat.zpow_zero,show (2:Rat)^(2:Int)=4 by rw[show (2:Int)=((2:Nat):Int) by rfl,p2_nat];rfl]at h
 grind
def checkV (kind:Int) (n:Bool) (p:Nat):Int:=
 match decide (kind<1) with
 |true=>150
 |false=>match decide (kind > 4) with
  |true=>150
  |false=>match leF (absW p) 4787326403894837248 with
   |false=>5
   |true=>match kind == 1 with
    |true=>(match n with|true=>(match eqF p 0 with|true=>0|false=>150)|false=>150)
    |false=>match kind == 2 with
     |true=>(match eqF p 0 with|true=>0|false=>150)
     |false=>match kind == 3 with
      |true=>(match eqF (wholeW p) p with
       |true=>(match geF p 4607182418800017408 with
        |true=>(match leF p 4620693217682128896 with|true=>0|false=>150)
        |false=>150)
       |false=>150)
      |false=>(match geF p 4598175219545276416 with
        |true=>(match leF p 4616189618054758400 with|true=>0|false=>150)
        |false=>150)
theorem withinK_eq {p:Nat} {R:Type} (k:Bool→Option R):withinK R p 4787326403894837248 k=k (leF (absW p) 4787326403894837248):=by
 unfold withinK withinB absK; show forceB (leF (absW p) 4787326403894837248) (fun t=>k t)=_
 rw[forceB_eq]
theorem check_eq {kind:Int} {a1 a2 s1 s2 p:Nat} {xa ya xs ys:Int} (ha:IsC a1 a2 xa ya) (hs:IsC s1 s2 xs ys) (h1:xa.natAbs≤2^40) (h2:ya.natAbs≤2^40) (h3:xs.natAbs≤2^40) (h4:ys.natAbs≤2^40)
  (hp:p<2^64) {R:Type} (k:Int→Option R):checkB placeK withinK noughtK wholeK R kind a1 a2 s1 s2 p k=k (checkV kind (decide (xa=0∧ya=0)) p):=by
 unfold checkB checkV
 rw[forceB_eq]
 cases g0:decide (kind<1) with
 |true=>rfl
 |false=>
  simp only
  rw[forceB_eq]
  cases g4:decide (kind > 4) with
  |true=>rfl
  |false=>
   simp only
   rw[placeK_int ha h1 h2,forceB_eq]
   simp only
   rw[placeK_int hs h3 h4,forceB_eq]
   simp only
   rw[withinK_eq,forceB_eq]
   cases hl:leF (absW p) 4787326403894837248 with
   |false=>rfl
   |true=>
    obtain⟨P,ip,bp⟩:=within_is hp hl
    simp only
    rw[forceB_eq]
    cases g1:kind == 1 with
    |true=>
     simp only
     rw[noughtK_int ha,forceB_eq]
     cases decide (xa=0∧ya=0) with
     |false=>rfl
     |true=>
      simp only
      rw[forceB_eq]
      cases eqF p 0<;>rfl
    |false=>
     simp only
     rw[forceB_eq]
     cases g2:kind == 2 with
     |true=>
      simp only
      rw[forceB_eq]
      cases eqF p 0<;>rfl
     |false=>
      simp only
      rw[forceB_eq]
      cases g3:kind == 3 with
      |true=>
       simp only
       rw[wholeK_eq ip,forceB_eq]
       cases eqF (wholeW p) p with
       |false=>rfl
       |true=>
        simp only
        rw[forceB_eq]
        cases geF p 4607182418800017408 with
        |false=>rfl
        |true=>
         simp only
         rw[forceB_eq]
         cases leF p 4620693217682128896<;>rfl
      |false=>
       simp only
       rw[forceB_eq]
       cases g5:kind == 4 with
       |true=>
        simp only
        rw[forceB_eq]
        cases geF p 4598175219545276416 with
        |false=>rfl
        |true=>
         simp only
         rw[forceB_eq]
         cases leF p 4616189618054758400<;>rfl
       |false=>
        exfalso; have c0:=of_decide_eq_false g0; have c4:=of_decide_eq_false g4; have c1:¬ kind=1:=by simpa using g1
        have c2:¬ kind=2:=by simpa using g2
        have c3:¬ kind=3:=by simpa using g3
        have c5:¬ kind=4:=by simpa using g5
        omega
theorem rnd_zero {x z:Rat} (h:Rnd x z) (hx:x=0):z=0:=by
 have:=h.rep 0 0 (by decide) (by decide) (by rw[hx];simp)
 rw[this,hx]
def cV:Rat:=dv false 5734161139222659 (-55)
def piV:Rat:=dv false 7074237752028440 (-51)
theorem is_c:Is 4594902181429758083 cV:=⟨by decide,false,_,_,by decide,rfl⟩
theorem is_pi:Is 4614256656552045848 piV:=⟨by decide,false,_,_,by decide,rfl⟩
theorem p2_neg (n:Nat):(2:Rat)^(-(n:Int))*((2^n:Nat):Rat)=1:=by
 rw[← p2_nat,← p2_add,show -(n:Int)+n=0 by omega,Rat.zpow_zero]
theorem cV_eq:cV=5734161139222659/36028797018963968:=by
 have h:=p2_neg 55; have e:((2^55:Nat):Rat)=36028797018963968:=rfl
 rw[e]at h
 unfold cV dv sg
 rw[if_neg (by decide),Rat.one_mul,show ((5734161139222659:Nat):Rat)=5734161139222659 by rfl,show (-55:Int)=-((55:Nat):Int) by rfl]
 grind
theorem piV_eq:piV=7074237752028440/2251799813685248:=by
 have h:=p2_neg 51; have e:((2^51:Nat):Rat)=2251799813685248:=rfl
 rw[e]at h
 unfold piV dv sg
 rw[if_neg (by decide),Rat.one_mul,show ((7074237752028440:Nat):Rat)=7074237752028440 by rfl,show (-51:Int)=-((51:Nat):Int) by rfl]
 grind
theorem cV_ge:1/16≤cV:=by rw[cV_eq];grind
theorem eps_eq:eps=1/2251799813685248:=by
 have h:=p2_neg 51; have e:((2^51:Nat):Rat)=2251799813685248:=rfl
 rw[e]at h
 unfold eps
 rw[show (-51:Int)=-((51:Nat):Int) by rfl]
 grind
theorem two_pi_c:(cV*2*piV-1).abs≤eps:=by
 rw[cV_eq,piV_eq,eps_eq]
 exact abs_le_iff.2 ⟨by grind,by grind⟩
theorem p40m:(2:Rat)^(-40:Int)=1/1099511627776:=by
 have h:=p2_neg 40; have e:((2^40:Nat):Rat)=1099511627776:=rfl
 rw[e]at h
 rw[show (-40:Int)=-((40:Nat):Int) by rfl]
 grind
theorem is_m40:Is 4427038433705197568 ((2:Rat)^(-40:Int)):=by
 refine⟨by decide,false,4503599627370496,-92,by decide,?_⟩
 unfold dv sg
 rw[if_neg (by decide),Rat.one_mul,show ((4503599627370496:Nat):Rat)=(2:Rat)^((52:Nat):Int) by rw[p2_nat],← p2_add]
 rfl
theorem is_hair:Is 4517110426252607488 ((2:Rat)^(-20:Int)):=by
 refine⟨by decide,false,4503599627370496,-72,by decide,?_⟩
 unfold dv sg
 rw[if_neg (by decide),Rat.one_mul,show ((4503599627370496:Nat):Rat)=(2:Rat)^((52:Nat):Int) by rw[p2_nat],← p2_add]
 rfl
theorem sclK_int {a b c:Nat} {x y z:Int} (h:IsC a b x y) (hc:Is c z) (b1:(x*z).natAbs<2^53) (b2:(y*z).natAbs<2^53):
  ∃ p q,IsC p q (x*z) (y*z)∧∀(R:Type) (k:Nat→Nat→Option R),sclK R a b c k=k p q:=by
 obtain⟨p,e1,g1⟩:=mul_int h.1 hc b1
 obtain⟨q,e2,g2⟩:=mul_int h.2 hc b2
 exact⟨p,q,⟨g1,g2⟩,fun R k=>by unfold sclK;rw[bindF_eq e1,bindF_eq e2]⟩
section
variable {a1 a2 s1 s2:Nat} {x y u v:Int} {R:Type}
theorem WithinK_int (ha:IsC a1 a2 x y) (h1:x.natAbs≤2^40) (h2:y.natAbs≤2^40) (k:Bool→Option R):WithinK R a1 a2 4787326403894837248 k=k true:=by
 unfold WithinK WithinB
 rw[withinK_int ha.1 h1,forceB_eq]
 simp only
 rw[withinK_int ha.2 h2,forceB_eq]
theorem ge_least {r:Nat} {V:Int} (hr:Is r V) (h1:1≤V):geF r 4427038433705197568=true:=by
 rw[geF_is hr is_m40,p40m]
 have:((1:Int):Rat)≤(V:Rat):=by exact_mod_cast h1
 have e:((1:Int):Rat)=1:=rfl; exact decide_eq_true (by grind)
theorem le_most {r:Nat} {V:Int} (hr:Is r V) (h1:V≤2^40):leF r 4787326403894837248=true:=by
 rw[leF_is hr is_p40]
 exact decide_eq_true (by exact_mod_cast h1)
end
section
variable {R:Type}
theorem p20m:(2:Rat)^(-20:Int)=1/1048576:=by
 have h:=p2_neg 20; have e:((2^20:Nat):Rat)=1048576:=rfl
 rw[e]at h
 rw[show (-20:Int)=-((20:Nat):Int) by rfl]
 grind
theorem lt_big {x:Rat} (h:x.abs≤1000000000000000):x.abs<(2:Rat)^(1023:Int):=by
 have h6:=p2_le (show (50:Int)≤1023 by decide); have h8:(2:Rat)^(50:Int)=1125899906842624:=by rw[show (50:Int)=((50:Nat):Int) by rfl,p2_nat];rfl
 grind
end
theorem len_v {u v e t:Rat} (h:u≤v+e) (c:e≤v*(1/1000)+t) (v0:0≤v) (t0:0≤t):u*(998/1000)≤v+t:=by grind
theorem len_sq {U V t:Rat} (t20:t≤1/1048576) (t0:0≤t) (h1:U.abs*(998/1000)≤V.abs+t) (h2:V.abs≤1):U*U*(996/1000)≤V*V+3*t:=by
 have e1:U.abs*U.abs=U*U:=by rw[← abs_mul,Rat.abs_of_nonneg (sq_nonneg _)]
 have e2:V.abs*V.abs=V*V:=by rw[← abs_mul,Rat.abs_of_nonneg (sq_nonneg _)]
 have nU:=abs_nonneg U; have nV:=abs_nonneg V; have h3:=mul_mono' h1 h1 (Rat.mul_nonneg nU (by grind)) (show 0≤V.abs+t by grind); have h4:=Rat.mul_le_mul_of_nonneg_right h2 t0; have h5:=Rat.mul_le_mul_of_nonneg_right t20 t0; have h6:=sq_nonneg U; grind
theorem len_up {X X0 Y Y0 P Q S T t e:Rat} (v1:X.abs*(998/1000)≤X0.abs+t) (v2:Y.abs*(998/1000)≤Y0.abs+t) (b1:X0.abs≤1) (b2:Y0.abs≤1) (t20:t≤1/1048576) (t0:0≤t) (hl:1/2≤X0.abs∨1/2≤Y0.abs)
  (f3:P-X*X≤X*X*(1/1000)+t) (f4:Q-Y*Y≤Y*Y*(1/1000)+t) (f5:S-(P+Q)≤(P+Q)*(1/1000)+t) (f6:T*T-S≤S*e) (m51:S*e≤S*(4/1000)) (S0:0≤S):T*T≤102/100*(X0*X0+Y0*Y0):=by
 have v3:=len_sq t20 t0 v1 b1; have v4:=len_sq t20 t0 v2 b2; have x0:=sq_nonneg X0; have y0:=sq_nonneg Y0; have v5:1/4≤X0*X0+Y0*Y0:=by
  rcases hl with h|h
  ·have e1:X0.abs*X0.abs=X0*X0:=by rw[← abs_mul,Rat.abs_of_nonneg (sq_nonneg _)]
   have:=mul_mono' h h (by decide +kernel) (abs_nonneg X0)
   grind
  ·have e1:Y0.abs*Y0.abs=Y0*Y0:=by rw[← abs_mul,Rat.abs_of_nonneg (sq_nonneg _)]
   have:=mul_mono' h h (by decide +kernel) (abs_nonneg Y0)
   grind
 clear v1 v2 b1 b2 hl; generalize X*X=A at *
 generalize Y*Y=B at *
 generalize X0*X0=C at *
 generalize Y0*Y0=D at *
 have v6:(A+B)*(995/1000)≤C+D:=by grind
 have v7:(P+Q)*(994/1000)≤C+D:=by grind
 have v8:S*(992/1000)≤C+D:=by grind
 grind
theorem lengthK_all {a b:Nat} {x y d:Rat} (ha:Is a x) (hb:Is b y) (hx:x.abs≤d) (hy:y.abs≤d) (d1:(2:Rat)^(-900:Int)≤d) (d2:d≤(2:Rat)^(400:Int)):
  ∃ r L,Is r L∧L≤2*d∧((x=0∧y=0)∨(2:Rat)^(-800:Int)≤x.abs∨(2:Rat)^(-800:Int)≤y.abs→0≤L∧x*x+y*y≤103/100*(L*L)∧L*L≤103/100*(x*x+y*y))∧∀(R:Type) (k:Nat→Option R),lengthK R a b k=k r:=by
 have hd0:0<d:=by have:=p2_pos (-900);grind
 obtain⟨g,G,hg,gx,gy,hG,hgk⟩:=greatestK_is ha hb
 have hpre:∀(R:Type) (k:Nat→Option R),lengthK R a b k=forceB (eqF g 0) fun t=>match t with
   |true=>k 0
   |false=>scaledK R a b fun x y e=>squareK R x y fun s=>sqrtK R s fun r=>scaleK R r e k:=fun R k=>by
  unfold lengthK lengthB
  rw[isInfK_no ha,forceB_eq]
  simp only
  rw[isInfK_no hb,forceB_eq]
  simp only
  rw[isNanK_no ha,forceB_eq]
  simp only
  rw[isNanK_no hb,forceB_eq]
  simp only
  rw[hgk]
  rfl
 by_cases hG0:G=0
 ·refine⟨0,0,by simpa using is_zero,by grind,fun _=>⟨Rat.le_refl,?_,by have:=sq_nonneg x;have:=sq_nonneg y;grind⟩,fun R k=>?_⟩
  ·have e1:x.abs*x.abs=x*x:=by rw[← abs_mul,Rat.abs_of_nonneg (sq_nonneg _)]
   have e2:y.abs*y.abs=y*y:=by rw[← abs_mul,Rat.abs_of_nonneg (sq_nonneg _)]
   have n1:=abs_nonneg x; have n2:=abs_nonneg y; have z1:x.abs=0:=by grind
   have z2:y.abs=0:=by grind
   rw[z1]at e1
   rw[z2]at e2
   grind
  rw[hpre,forceB_eq,eqF_is hg is_zero]
  simp[hG0]
 have hGd:G≤d:=by rcases hG with h|h<;>grind
 have hGp:0<G:=by have:=abs_nonneg x;grind
 have hGa:G.abs=G:=Rat.abs_of_nonneg (Rat.le_of_lt hGp)
 obtain⟨w,n,n1,n2,n3,n4,hfr⟩:=frexpK_is hg hG0
 rw[hGa]at n1 n2
 have n5:n≤401:=by
  refine Int.not_lt.1 fun h=>?_
  have h1:=p2_le (show (401:Int)≤n-1 by omega); have h2:=p2_half 401
  rw[show (401-1:Int)=400 by decide]at h2
  have:=p2_pos 400
  grind
 have pn:=p2_pos (-n); have hcan:(2:Rat)^n*(2:Rat)^(-n)=1:=p2_cancel n; have hhalf:(2:Rat)^(n-1)*(2:Rat)^(-n)=1/2:=by
  have:=p2_half n
  have h3:(2:Rat)^n*(2:Rat)^(-n)=2*((2:Rat)^(n-1)*(2:Rat)^(-n)):=by rw[this];grind
  grind
 have hD:1/2≤d*(2:Rat)^(-n):=by
  have:=Rat.mul_le_mul_of_nonneg_right (Rat.le_trans n1 hGd) (Rat.le_of_lt pn)
  rwa [hhalf]at this
 have up:∀{u:Rat},u.abs≤G→u.abs≤d→(u*(2:Rat)^(-n)).abs<1∧(u*(2:Rat)^(-n)).abs≤d*(2:Rat)^(-n):=fun{u} h1 h2=>by
  rw[abs_mul,p2_abs]
  have g1:=Rat.mul_lt_mul_of_pos_right (show u.abs<(2:Rat)^n by grind) pn; have g2:=Rat.mul_le_mul_of_nonneg_right h2 (Rat.le_of_lt pn)
  rw[hcan]at g1
  exact⟨g1,g2⟩
 obtain⟨ux1,ux2⟩:=up gx hx
 obtain⟨uy1,uy2⟩:=up gy hy
 have hlow':1/2≤(x*(2:Rat)^(-n)).abs∨1/2≤(y*(2:Rat)^(-n)).abs:=by
  have:=Rat.mul_le_mul_of_nonneg_right n1 (Rat.le_of_lt pn)
  rw[hhalf]at this
  rcases hG with h|h
  ·left;rw[abs_mul,p2_abs,← h];exact this
  ·right;rw[abs_mul,p2_abs,← h];exact this
 obtain⟨r1,X,i1,q1,s1⟩:=scaleK_is (n:=-n) ha (by omega) (by omega) (lt_p2_1023 (by grind))
 obtain⟨r2,Y,i2,q2,s2⟩:=scaleK_is (n:=-n) hb (by omega) (by omega) (lt_p2_1023 (by grind))
 have c1:=q1.coarse; have c2:=q2.coarse; have ht:(2:Rat)^(-1075:Int)≤1/1000:=p2_small (by decide); have ht0:=p2_pos (-1075); generalize hDD:d*(2:Rat)^(-n)=D at *
 generalize hXX:x*(2:Rat)^(-n)=X0 at *
 generalize hYY:y*(2:Rat)^(-n)=Y0 at *
 generalize htt:(2:Rat)^(-1075:Int)=t at *
 have aX:X.abs≤X0.abs+(X-X0).abs:=by have:=abs_add_le (X-X0) X0;rw[show X-X0+X0=X by grind]at this;grind
 have aY:Y.abs≤Y0.abs+(Y-Y0).abs:=by have:=abs_add_le (Y-Y0) Y0;rw[show Y-Y0+Y0=Y by grind]at this;grind
 have aX':X0.abs≤X.abs+(X-X0).abs:=by have:=abs_add_le X (X0-X);rw[show X+(X0-X)=X0 by grind,abs_sub_comm X0 X]at this;exact this
 have aY':Y0.abs≤Y.abs+(Y-Y0).abs:=by have:=abs_add_le Y (Y0-Y);rw[show Y+(Y0-Y)=Y0 by grind,abs_sub_comm Y0 Y]at this;exact this
 have bX:X.abs≤51/50*D:=by grind
 have bY:Y.abs≤51/50*D:=by grind
 have bX1:X.abs≤51/50:=by grind
 have bY1:Y.abs≤51/50:=by grind
 have sX:=sq_le bX; have sY:=sq_le bY; have sX1:=sq_le bX1; have sY1:=sq_le bY1; have zX:=sq_nonneg X; have zY:=sq_nonneg Y; have aXX:(X*X).abs=X*X:=Rat.abs_of_nonneg zX; have aYY:(Y*Y).abs=Y*Y:=Rat.abs_of_nonneg zY
 obtain⟨r3,Pp,e3,i3,q3⟩:=mul_is i1 i1 (lt_p2_1023 (by rw[aXX];grind))
 obtain⟨r4,Qq,e4,i4,q4⟩:=mul_is i2 i2 (lt_p2_1023 (by rw[aYY];grind))
 have c3:=q3.coarse; have c4:=q4.coarse
 rw[aXX]at c3
 rw[aYY]at c4
 rw[htt]at c3 c4
 have f3:=abs_le_iff.1 c3; have f4:=abs_le_iff.1 c4; have hDsq:1/4≤D*D:=by have:=Rat.mul_le_mul_of_nonneg_left hD (show (0:Rat)≤D by grind);grind
 have low:11/50≤X*X∨11/50≤Y*Y:=by
  rcases hlow' with h|h
  ·left
   have:47/100≤X.abs:=by grind
   have:=sq_ge this (by grind)
   grind
  ·right
   have:47/100≤Y.abs:=by grind
   have:=sq_ge this (by grind)
   grind
 have hPQ1:Pp+Qq≤106/50*(D*D):=by grind
 have hPQ2:1/5≤Pp+Qq:=by rcases low with h|h<;>grind
 have hPQ3:Pp+Qq≤3:=by grind
 have aPQ:(Pp+Qq).abs=Pp+Qq:=Rat.abs_of_nonneg (by grind)
 obtain⟨r5,S,e5,i5,q5⟩:=add_is i3 i4 (lt_p2_1023 (by rw[aPQ];grind))
 have c5:=q5.coarse
 rw[aPQ,htt]at c5
 have f5:=abs_le_iff.1 c5; have hS1:S≤108/50*(D*D):=by grind
 have hS2:1/10≤S:=by grind
 have hS3:S≤4:=by grind
 obtain⟨r6,T,e6,i6,t0,t1⟩:=sqrt_is i5 (by grind)
  (by
    have:=lt_p2_1023 (x:=4) (by rw[Rat.abs_of_nonneg (by decide)];decide)
    have h6:=p2_le (show (10:Int)≤1000 by decide); have h8:(2:Rat)^(10:Int)=1024:=by rw[show (10:Int)=((10:Nat):Int) by rfl,p2_nat];rfl
    grind) (by have:=p2_small (show (-1000:Int)≤-53 by decide);grind)
 have f6:=abs_le_iff.1 t1; have e51:(2:Rat)^(-51:Int)≤4/1000:=by
  have h6:=p2_half (-51); have h7:=p2_half (-52)
  rw[show (-51-1:Int)=-52 by decide]at h6
  rw[show (-52-1:Int)=-53 by decide]at h7
  have:=e53_le
  grind
 have m51:=Rat.mul_le_mul_of_nonneg_left e51 (show (0:Rat)≤S by grind); have hT2:T*T≤11/5*(D*D):=by grind
 have hT:T≤3/2*D:=by
  refine Rat.not_lt.1 fun h=>?_
  have g1:=Rat.mul_le_mul_of_nonneg_left (Rat.le_of_lt h) (show (0:Rat)≤3/2*D by grind); have g2:=Rat.mul_le_mul_of_nonneg_right (Rat.le_of_lt h) (Rat.le_of_lt t0); grind
 have hTn:T*(2:Rat)^n≤3/2*d:=by
  have g1:=Rat.mul_le_mul_of_nonneg_right hT (Rat.le_of_lt (p2_pos n)); have g2:D*(2:Rat)^n=d:=by rw[← hDD,Rat.mul_assoc,Rat.mul_comm ((2:Rat)^(-n)),hcan];grind
  grind
 have hTn0:0≤T*(2:Rat)^n:=Rat.mul_nonneg (Rat.le_of_lt t0) (Rat.le_of_lt (p2_pos n)); have aTn:(T*(2:Rat)^n).abs=T*(2:Rat)^n:=Rat.abs_of_nonneg hTn0
 obtain⟨r7,L,i7,q7,s7⟩:=scaleK_is (n:=n) i6 (by omega) (by omega) (by
  rw[aTn]
  have g1:=p2_le (show (401:Int)≤1023 by decide); have g2:=p2_half 401
  rw[show (401-1:Int)=400 by decide]at g2
  grind)
 have c7:=q7.coarse
 rw[aTn,htt]at c7
 have f7:=abs_le_iff.1 c7; have htd:t≤d*(1/1000):=by
  have g1:=Rat.mul_le_mul_of_nonneg_right d1 (Rat.le_of_lt (p2_pos (-175)))
  rw[← p2_add,show (-900+-175:Int)=-1075 by decide,htt]at g1
  have g2:=Rat.mul_le_mul_of_nonneg_left (p2_small (show (-175:Int)≤-53 by decide)) (Rat.le_of_lt hd0); grind
 have hT4:1/4≤T:=by
  refine Rat.not_lt.1 fun h=>?_
  have g2:=Rat.mul_le_mul_of_nonneg_left (Rat.le_of_lt h) (Rat.le_of_lt t0); grind
 have t20:t≤1/1048576:=by
  have:=p2_le (show (-1075:Int)≤-20 by decide)
  rw[htt,p20m]at this
  exact this
 have k1:X0.abs*(999/1000)≤X.abs+t:=by grind
 have k2:Y0.abs*(999/1000)≤Y.abs+t:=by grind
 have sqs:∀{U V:Rat},U.abs*(999/1000)≤V.abs+t→V.abs≤51/50→U*U*(998/1000)≤V*V+3*t:=fun{U V} h1 h2=>by
  have e1:U.abs*U.abs=U*U:=by rw[← abs_mul,Rat.abs_of_nonneg (sq_nonneg _)]
  have e2:V.abs*V.abs=V*V:=by rw[← abs_mul,Rat.abs_of_nonneg (sq_nonneg _)]
  have nU:=abs_nonneg U; have nV:=abs_nonneg V; have h3:=mul_mono' h1 h1 (Rat.mul_nonneg nU (by grind)) (show 0≤V.abs+t by grind); have h4:=Rat.mul_le_mul_of_nonneg_right h2 (Rat.le_of_lt ht0); have h5:=Rat.mul_le_mul_of_nonneg_right t20 (Rat.le_of_lt ht0); have h6:=sq_nonneg U; grind
 have j1:=sqs k1 bX1; have j2:=sqs k2 bY1; have k3:X*X+Y*Y ≥ 11/50:=by rcases low with h|h<;>grind
 have k4:(X0*X0+Y0*Y0)*(997/1000)≤X*X+Y*Y:=by
  have:=sq_nonneg X0
  have:=sq_nonneg Y0
  grind
 have k5:(X*X+Y*Y)*(998/1000)≤Pp+Qq:=by grind
 have k6:(Pp+Qq)*(998/1000)≤S:=by grind
 have k7:S*(996/1000)≤T*T:=by grind
 have k8:X0*X0+Y0*Y0≤102/100*(T*T):=by
  have:=sq_nonneg X0
  have:=sq_nonneg Y0
  grind
 have v1:=len_v aX c1 (abs_nonneg X0) (Rat.le_of_lt ht0); have v2:=len_v aY c2 (abs_nonneg Y0) (Rat.le_of_lt ht0); have v10:=len_up v1 v2 (Rat.le_of_lt ux1) (Rat.le_of_lt uy1) t20 (Rat.le_of_lt ht0) hlow' f3.2 f4.2 f5.2 f6.2 m51 (Rat.le_trans (by decide +kernel) hS2); have hP0:=p2_pos n; have hX0:x=X0*(2:Rat)^n:=by rw[← hXX,Rat.mul_assoc,Rat.mul_comm ((2:Rat)^(-n)),hcan];grind
 have hY0:y=Y0*(2:Rat)^n:=by rw[← hYY,Rat.mul_assoc,Rat.mul_comm ((2:Rat)^(-n)),hcan];grind
 have k9:x*x+y*y≤102/100*((T*(2:Rat)^n)*(T*(2:Rat)^n)):=by
  have:=Rat.mul_le_mul_of_nonneg_right k8 (sq_nonneg ((2:Rat)^n))
  rw[hX0,hY0]
  grind
 have k9':(T*(2:Rat)^n)*(T*(2:Rat)^n)≤102/100*(x*x+y*y):=by
  have:=Rat.mul_le_mul_of_nonneg_right v10 (sq_nonneg ((2:Rat)^n))
  rw[hX0,hY0]
  grind
 refine⟨r7,L,i7,by grind,fun hlo=>?_,fun R k=>?_⟩
 ·have gn:(2:Rat)^(-800:Int)≤(2:Rat)^n:=by
   have q:(2:Rat)^(-800:Int)≤G:=by
    rcases hlo with ⟨h1,h2⟩|h|h
    ·exfalso; subst h1; subst h2
     rw[abs_zero]at hG
     exact hG0 (by rcases hG with h|h<;>exact h)
    ·exact Rat.le_trans h gx
    ·exact Rat.le_trans h gy
   exact Rat.le_trans q (Rat.le_of_lt n2)
  have hT5:=Rat.mul_le_mul_of_nonneg_right hT4 (Rat.le_of_lt hP0); have tw:t≤T*(2:Rat)^n*(1/1000):=by
   have g1:=Rat.mul_le_mul_of_nonneg_right gn (Rat.le_of_lt (p2_pos (-275)))
   rw[← p2_add,show (-800+-275:Int)=-1075 by decide,htt]at g1
   have g2:=p2_le (show (-275:Int)≤-20 by decide)
   rw[p20m]at g2
   have g3:=Rat.mul_le_mul_of_nonneg_left g2 (Rat.le_of_lt hP0); grind
  have w1:T*(2:Rat)^n*(998/1000)≤L:=by grind
  have w1':L≤T*(2:Rat)^n*(1002/1000):=by grind
  have w0:0≤L:=Rat.le_trans (Rat.mul_nonneg hTn0 (by grind)) w1; have w2:=mul_mono' w1 w1 (Rat.mul_nonneg hTn0 (by grind)) w0; have w2':=mul_mono' w1' w1' w0 (Rat.mul_nonneg hTn0 (by grind)); generalize T*(2:Rat)^n=W at *
  have w3:=Rat.mul_nonneg hTn0 hTn0
  exact⟨w0,by grind,by grind⟩
 have hG0':¬ (G=((0:Int):Rat)):=by simpa using hG0
 rw[hpre,forceB_eq,eqF_is hg is_zero]
 simp only[hG0',decide_false]
 unfold scaledK scaledB
 rw[hgk,hfr]
 rw[show (0-n)=-n by omega,wrapI (by omega) (by omega),s1,s2]
 simp only[squareK,sqrtK]
 rw[bindF_eq e3,bindF_eq e4,bindF_eq e5,bindF_eq e6,s7]
theorem lengthK_most {a b:Nat} {x y d:Rat} (ha:Is a x) (hb:Is b y) (hx:x.abs≤d) (hy:y.abs≤d) (d1:(2:Rat)^(-900:Int)≤d) (d2:d≤(2:Rat)^(400:Int)) (hlo:(x=0∧y=0)∨(2:Rat)^(-800:Int)≤x.abs∨(2:Rat)^(-800:Int)≤y.abs):
  ∃ r L,Is r L∧0≤L∧L≤2*d∧x*x+y*y≤103/100*(L*L)∧L*L≤103/100*(x*x+y*y)∧∀(R:Type) (k:Nat→Option R),lengthK R a b k=k r:=
 let ⟨r,L,h1,h2,h3,h4⟩:=lengthK_all ha hb hx hy d1 d2
 ⟨r,L,h1,(h3 hlo).1,h2,(h3 hlo).2.1,(h3 hlo).2.2,h4⟩
theorem lengthK_le {a b:Nat} {x y d:Rat} (ha:Is a x) (hb:Is b y) (hx:x.abs≤d) (hy:y.abs≤d) (d1:(2:Rat)^(-900:Int)≤d) (d2:d≤(2:Rat)^(400:Int)):∃ r L,Is r L∧L≤2*d∧∀(R:Type) (k:Nat→Option R),lengthK R a b k=k r:=
 let ⟨r,L,h1,h2,_,h4⟩:=lengthK_all ha hb hx hy d1 d2
 ⟨r,L,h1,h2,h4⟩
theorem nearK_yes {a b c d m:Nat} {x y u v M e:Rat} (ha:Is a x) (hb:Is b y) (hc:Is c u) (hd:Is d v) (hm:Is m M) (hx:(x-u).abs≤e) (hy:(y-v).abs≤e) (e1:(2:Rat)^(-800:Int)≤e) (e2:e≤(2:Rat)^(300:Int)) (hM:3*e≤M) {R:Type} (k:Bool→Option R):
  nearK R a b c d m k=k true:=by
 have h300:=p2_le (show (300:Int)≤1022 by decide); have h1022:=p2_half 1023
 rw[show (1023-1:Int)=1022 by decide]at h1022
 have hp:=p2_pos 1022; have he0:0<e:=by have:=p2_pos (-800);grind
 obtain⟨p,X,f1,g1,r1⟩:=sub_is ha hc (by grind)
 obtain⟨q,Y,f2,g2,r2⟩:=sub_is hb hd (by grind)
 have c1:=r1.coarse; have c2:=r2.coarse; have ht:(2:Rat)^(-1075:Int)≤e*(1/1000):=by
  have k1:=Rat.mul_le_mul_of_nonneg_right e1 (Rat.le_of_lt (p2_pos (-275)))
  rw[← p2_add,show (-800+-275:Int)=-1075 by decide]at k1
  have k2:=Rat.mul_le_mul_of_nonneg_left (p2_small (show (-275:Int)≤-53 by decide)) (Rat.le_of_lt he0); grind
 have aX:X.abs≤5/4*e:=by
  have:=abs_add_le (X-(x-u)) (x-u)
  rw[show X-(x-u)+(x-u)=X by grind]at this
  grind
 have aY:Y.abs≤5/4*e:=by
  have:=abs_add_le (Y-(y-v)) (y-v)
  rw[show Y-(y-v)+(y-v)=Y by grind]at this
  grind
 have k900:=p2_le (show (-900:Int)≤-800 by decide); have k400:=p2_le (show (301:Int)≤400 by decide); have k301:=p2_half 301
 rw[show (301-1:Int)=300 by decide]at k301
 obtain⟨r,L,i1,l1,s1⟩:=lengthK_le g1 g2 aX aY (by grind) (by grind)
 unfold nearK nearB subK
 rw[bindF_eq f1,bindF_eq f2]
 simp only
 rw[s1,forceB_eq,leF_is i1 hm]
 have:L≤M:=by grind
 simp only[this,decide_true]
section
variable {α:Type} {ys:List α}
theorem rnd_zero' {x z:Rat} (h:Rnd x z) (hx:x=0):z=0:=by
 have:=h.rep 0 0 (by decide) (by decide) (by rw[hx];simp)
 rw[this,hx]
theorem low_1000 {B:Rat} (h:1/1000000≤B):(2:Rat)^(-1000:Int)≤B:=by
 have h1:=p2_le (show (-1000:Int)≤-20 by decide)
 rw[p20m]at h1
 grind
theorem nat_rat {a:Nat}:a=0∨(1:Rat)≤(a:Rat):=by
 rcases Nat.eq_zero_or_pos a with h|h
 ·exact .inl h
 ·right
  have:((1:Nat):Rat)≤(a:Rat):=nat_cast_le h
  exact this
end
def huge:Rat:=(2:Rat)^(400:Int)
theorem huge_lt {x:Rat} (h:x.abs≤huge):x.abs<(2:Rat)^(1022:Int):=by
 have h1:=p2_le (show (401:Int)≤1022 by decide); have h2:=p2_half 401
 rw[show (401-1:Int)=400 by decide]at h2
 have:=p2_pos 400
 unfold huge at h; grind
def sm (f:Nat→Rat):Nat→Nat→Rat
 |_,0=>0
 |c,m+1=>f c+sm f (c+1) m
theorem sm_congr {f g:Nat→Rat}:∀(m c:Nat),(∀ j,c≤j→j<c+m→f j=g j)→sm f c m=sm g c m
 |0,c,h=>rfl
 |m+1,c,h=>by
  unfold sm
  rw[h c (Nat.le_refl _) (by omega),sm_congr m (c+1) fun j h1 h2=>h j (by omega) (by omega)]
theorem sm_add (f g:Nat→Rat):∀(m c:Nat),sm (fun j=>f j+g j) c m=sm f c m+sm g c m
 |0,c=>by simp only[sm];grind
 |m+1,c=>by simp only[sm,sm_add f g m (c+1)];grind
theorem sm_mul (k:Rat) (f:Nat→Rat):∀(m c:Nat),sm (fun j=>k*f j) c m=k*sm f c m
 |0,c=>by simp only[sm];grind
 |m+1,c=>by simp only[sm,sm_mul k f m (c+1)];grind
theorem sm_abs {f g:Nat→Rat}:∀(m c:Nat),(∀ j,c≤j→j<c+m→(f j).abs≤g j)→(sm f c m).abs≤sm g c m
 |0,c,h=>by simp only[sm];rw[abs_zero];grind
 |m+1,c,h=>by
  simp only[sm]
  have h1:=h c (Nat.le_refl _) (by omega); have h2:=sm_abs m (c+1) fun j h1 h2=>h j (by omega) (by omega)
  have:=abs_add_le (f c) (sm f (c+1) m)
  grind
theorem sm_nonneg {f:Nat→Rat} (h:∀ j,0≤f j):∀(m c:Nat),0≤sm f c m
 |0,c=>by simp only[sm];grind
 |m+1,c=>by simp only[sm];have:=h c;have:=sm_nonneg h m (c+1);grind
theorem sm_split (f:Nat→Rat):∀(a b c:Nat),sm f c (a+b)=sm f c a+sm f (c+a) b
 |0,b,c=>by simp only[sm,Nat.zero_add,Nat.add_zero];grind
 |a+1,b,c=>by
  rw[show a+1+b=(a+b)+1 by omega]
  simp only[sm,sm_split f a b (c+1)]
  rw[show c+1+a=c+(a+1) by omega]
  grind
theorem sm_last (f:Nat→Rat) (k c:Nat):sm f c (k+1)=sm f c k+f (c+k):=by
 rw[sm_split f k 1 c]
 simp only[sm]
 grind
open Go.Proofs
def sliceV (b n c:Nat):Value:=.slice (some ⟨b,0,none⟩) n c
noncomputable def spC (fi:Fi) (sp:KSpV) (pl:KCI) (add:KCCC) (fn:KCB) (g:HT):Cx:=uC fi [(28,sSpV sp),(120,sCI pl),(26,sCCC add),(91,sCB fn)] [(34,saysV (.int .i64 0) g)] []
def elsV (f:Nat→El):Nat→Nat→List Value
 |_,0=>[]
 |i,m+1=>.int .u8 (f i).kind::.complex .f64 (f i).a1 (f i).a2::.complex .f64 (f i).s1 (f i).s2::.float .f64 (f i).p::elsV f (i+1) m
section
variable {R:Type}
def foldK (add:KCCC):Nat→Nat→List (Nat×Nat)→(Nat→Nat→Option R)→Option R
 |a,b,[],k=>k a b
 |a,b,(c,d)::r,k=>add R a b c d fun x y=>foldK add x y r k
def sumKK (add:KCCC):List (Nat×Nat)→(Nat→Nat→Option R)→Option R
 |[],k=>k 0 0
 |(a,b)::r,k=>foldK add a b r k
def spdR (sp:KSpV) (add:KCCC) (fn:KCB) (f:Nat→El) (z1 z2:Nat) (k:Nat→Nat→Int→Option R):Nat→Nat→List (Nat×Nat)→Option R
 |0,_,l=>sumKK add l.reverse fun x y=>fn R x y fun t=>bif t then k x y 0 else k 0 0 6
 |m+1,i,l=>sp R (f i).kind (f i).a1 (f i).a2 (f i).s1 (f i).s2 (f i).p z1 z2 fun a b e=>bif e != 0 then k 0 0 e else spdR sp add fn f z1 z2 k m (i+1) ((a,b)::l)
end
def spE (x y:Nat) (e:Int):Env:=[(4,.complex .f64 x y),(5,.int .i64 e)]
def EqSp (m:Nat):Prop:=∀(R:Type) (sp:KSpV) (pl:KCI) (add:KCCC) (fn:KCB) (g:HT) (f:Nat→El) (c sz z1 z2:Nat) (K:Ex→Env→Objs→Option R),
 evTop (spC fiReal sp pl add fn g) 100 (rollL (spC fiReal sp pl add fn g) 100) 1 19 (codeOf 61) (enumE 0 [.agg ⟨[sliceV 0 m c]⟩,.complex .f64 z1 z2]) ⟨1,[(0,.cells (elsV f 0 m) sz)]⟩ (takeC [4,5] [] K) =
  g R [.agg ⟨[sliceV 0 m c]⟩] ⟨3,[(2,.cells [.int .u8 0,.complex .f64 0 0,.complex .f64 0 0,.float .f64 0,sliceV 0 m c,nilS] 0),(1,.cells [sliceV 0 m c] 0),(0,.cells (elsV f 0 m) sz)]⟩ (pl R z1 z2 fun e=>bif e != 0 then K .ret (spE 0 0 e) [] else spdR sp add fn f z1 z2 (fun x y e=>K .ret (spE x y e) []) m 0 [])
theorem sp_1:EqSp 1:=by intro R sp pl add fn g f c sz z1 z2 K;kernel_rfl
theorem sp_2:EqSp 2:=by intro R sp pl add fn g f c sz z1 z2 K;kernel_rfl
theorem sp_3:EqSp 3:=by intro R sp pl add fn g f c sz z1 z2 K;kernel_rfl
theorem sp_4:EqSp 4:=by intro R sp pl add fn g f c sz z1 z2 K;kernel_rfl
theorem y_rising (R:Type) r (k:Value→Option R):evFn (cx Tryz.prog []) 60 168 [.float .f64 r,.int .i64 1] k=risingK R r fun x=>k (.float .f64 x):=by kernel_rfl
theorem y_exp (fi:Fi) (wh ris:KFF) (scal:KFIF) (R:Type) x (k:Value→Option R):evFn (cxf fi Tryz.prog [(122,sFF wh),(168,sRising ris),(79,sFIF scal),(74,sInfW2)] []) 60 167 [.float .f64 x] k=expB fi wh ris scal R x fun x=>k (.float .f64 x):=by kernel_rfl
theorem y_less (R:Type) x m (k:Value→Option R):evFn (cx Tryz.prog [(106,xFrom)]) 60 123 [.float .f64 x,.float .f64 m,.float .f64 4607182418800017408] k=lessK R x m fun x=>k (.float .f64 x):=by kernel_rfl
theorem y_steps (R:Type) y (k:Value→Option R):evFn (cx Tryz.prog []) 60 108 [.float .f64 y] k=stepsK R y fun s c=>k (.tuple ⟨[.float .f64 s,.float .f64 c]⟩):=by kernel_rfl
theorem y_quarter (fi:Fi) (fit:KFB) (wh:KFF) (ls:KFFF) (R:Type) x (k:Value→Option R):evFn (cxf fi Tryz.prog [(121,sFB fit),(122,sFF wh),(123,sLess ls),(76,sNever),(106,xFrom)] []) 60 107 [.float .f64 x] k =
 quarterB fi fit wh ls R x fun y n=>k (.tuple ⟨[.float .f64 y,.int .i64 n]⟩):=by kernel_rfl
theorem y_turn (q:KFFI2) (st:KFF2) (R:Type) x (k:Value→Option R):evFn (cx Tryz.prog [(107,sFFI q),(108,sFF2 st)]) 60 71 [.float .f64 x] k=turnB q st R x fun s c=>k (.tuple ⟨[.float .f64 s,.float .f64 c]⟩):=by kernel_rfl
theorem y_cexp (ex:KFF) (tn:KFF2) (R:Type) a b (k:Value→Option R):evFn (cx Tryz.prog [(167,sFF ex),(71,sFF2 tn)]) 60 166 [.complex .f64 a b] k=cexpB ex tn R a b fun x y=>k (.complex .f64 x y):=by kernel_rfl
theorem y_real (lg:KCC) (scl:KCFC) (ex:KCC) (R:Type) a b p (k:Value→Option R):evFn (cx Tryz.prog [(150,sCC lg),(15,sCFC scl),(166,sCC ex)]) 60 165 [.complex .f64 a b,.float .f64 p] k=realB lg scl ex R a b p fun x y=>k (.complex .f64 x y):=by kernel_rfl
theorem y_w1 (mul:KCCC) (R:Type) a b (k:Value→Option R):evFn (cx Tryz.prog [(43,sCCC mul)]) 60 90 [.complex .f64 a b,.int .i64 1] k=k (.complex .f64 a b):=by kernel_rfl
theorem y_w5 (mul:KCCC) (R:Type) a b (k:Value→Option R):evFn (cx Tryz.prog [(43,sCCC mul)]) 60 90 [.complex .f64 a b,.int .i64 5] k=wsteps mul a b (wbits 5) a b fun x y=>k (.complex .f64 x y):=by kernel_rfl
theorem y_w10 (mul:KCCC) (R:Type) a b (k:Value→Option R):evFn (cx Tryz.prog [(43,sCCC mul)]) 60 90 [.complex .f64 a b,.int .i64 10] k=wsteps mul a b (wbits 10) a b fun x y=>k (.complex .f64 x y):=by kernel_rfl
end Go.Vm
