/- A part of the evaluator and of what is told of floats; no conditions. -/
import Derived.Test.YtaogignikkjkjaaGreatVmP26
import Derived.Test.YtaogignikkjkjaaGreatVmZ9
import Derived.Test.YtaogignikkjkjaaGreatVmZX
import Derived.Test.YtaogignikkjkjaaGreatVmRA7
import Derived.Test.YtaogignikkjkjaaGreatVmKL
set_option linter.unusedSimpArgs false
set_option linter.unusedVariables false
set_option maxRecDepth 1000000
set_option linter.unusedSectionVars false
namespace Go.Vx
open Go.Vm
structure Cp where
 re:Rat
 im:Rat
namespace Cp
theorem ext' {a b:Cp} (h1:a.re=b.re) (h2:a.im=b.im):a=b:=by cases a;cases b;simp only at h1 h2;rw[h1,h2]
instance:Add Cp:=⟨fun a b=>⟨a.re+b.re,a.im+b.im⟩⟩
instance:Sub Cp:=⟨fun a b=>⟨a.re-b.re,a.im-b.im⟩⟩
instance:Neg Cp:=⟨fun a=>⟨-a.re,-a.im⟩⟩
instance:Mul Cp:=⟨fun a b=>⟨a.re*b.re-a.im*b.im,a.re*b.im+a.im*b.re⟩⟩
def zero:Cp:=⟨0,0⟩
def one:Cp:=⟨1,0⟩
def I:Cp:=⟨0,1⟩
def of (x:Rat):Cp:=⟨x,0⟩
def cj (a:Cp):Cp:=⟨a.re,-a.im⟩
def nsq (a:Cp):Rat:=a.re*a.re+a.im*a.im
def pw (z:Cp):Nat→Cp
 |0=>one
 |n+1=>pw z n*z
def inv (a:Cp):Cp:=⟨a.re/a.nsq,-a.im/a.nsq⟩
theorem add_re (a b:Cp):(a+b).re=a.re+b.re:=rfl
theorem add_im (a b:Cp):(a+b).im=a.im+b.im:=rfl
theorem sub_re (a b:Cp):(a-b).re=a.re-b.re:=rfl
theorem sub_im (a b:Cp):(a-b).im=a.im-b.im:=rfl
theorem neg_re (a:Cp):(-a).re=-a.re:=rfl
theorem neg_im (a:Cp):(-a).im=-a.im:=rfl
theorem mul_re (a b:Cp):(a*b).re=a.re*b.re-a.im*b.im:=rfl
theorem mul_im (a b:Cp):(a*b).im=a.re*b.im+a.im*b.re:=rfl
theorem zero_re:zero.re=0:=rfl
theorem zero_im:zero.im=0:=rfl
theorem one_re:one.re=1:=rfl
theorem one_im:one.im=0:=rfl
theorem of_re (x:Rat):(of x).re=x:=rfl
theorem of_im (x:Rat):(of x).im=0:=rfl
theorem cj_re (a:Cp):(cj a).re=a.re:=rfl
theorem cj_im (a:Cp):(cj a).im=-a.im:=rfl
theorem add_comm (a b:Cp):a+b=b+a:=ext' (by simp only[add_re];grind) (by simp only[add_im];grind)
theorem zero_add (a:Cp):zero+a=a:=ext' (by simp only[add_re,zero_re];grind) (by simp only[add_im,zero_im];grind)
theorem add_zero (a:Cp):a+zero=a:=ext' (by simp only[add_re,zero_re];grind) (by simp only[add_im,zero_im];grind)
theorem sub_self (a:Cp):a-a=zero:=ext' (by simp only[sub_re,zero_re];grind) (by simp only[sub_im,zero_im];grind)
theorem sub_eq (a b:Cp):a-b=a+-b:=ext' (by simp only[sub_re,add_re,neg_re];grind) (by simp only[sub_im,add_im,neg_im];grind)
theorem mul_comm (a b:Cp):a*b=b*a:=ext' (by simp only[mul_re];grind) (by simp only[mul_im];grind)
theorem mul_assoc (a b c:Cp):a*b*c=a*(b*c):=ext' (by simp only[mul_re,mul_im];grind) (by simp only[mul_im,mul_re];grind)
theorem one_mul (a:Cp):one*a=a:=ext' (by simp only[mul_re,one_re,one_im];grind) (by simp only[mul_im,one_re,one_im];grind)
theorem mul_one (a:Cp):a*one=a:=by rw[mul_comm,one_mul]
theorem zero_mul (a:Cp):zero*a=zero:=ext' (by simp only[mul_re,zero_re,zero_im];grind) (by simp only[mul_im,zero_re,zero_im];grind)
theorem mul_zero (a:Cp):a*zero=zero:=by rw[mul_comm,zero_mul]
theorem mul_add (a b c:Cp):a*(b+c)=a*b+a*c:=ext' (by simp only[mul_re,add_re,add_im];grind) (by simp only[mul_im,add_im,add_re];grind)
theorem add_mul (a b c:Cp):(a+b)*c=a*c+b*c:=by rw[mul_comm,mul_add,mul_comm c a,mul_comm c b]
theorem mul_sub (a b c:Cp):a*(b-c)=a*b-a*c:=ext' (by simp only[mul_re,sub_re,sub_im];grind) (by simp only[mul_im,sub_im,sub_re];grind)
theorem sub_mul (a b c:Cp):(a-b)*c=a*c-b*c:=by rw[mul_comm,mul_sub,mul_comm c a,mul_comm c b]
theorem mul_left_comm (a b c:Cp):a*(b*c)=b*(a*c):=by rw[← mul_assoc,mul_comm a b,mul_assoc]
theorem of_mul (x:Rat) (a:Cp):of x*a=⟨x*a.re,x*a.im⟩:=ext' (by simp only[mul_re,of_re,of_im];grind) (by simp only[mul_im,of_re,of_im];grind)
theorem of_mul_of (x y:Rat):of (x*y)=of x*of y:=ext' (by simp only[mul_re,of_re,of_im];grind) (by simp only[mul_im,of_re,of_im];grind)
theorem of_add (x y:Rat):of (x+y)=of x+of y:=ext' (by simp only[add_re,of_re]) (by simp only[add_im,of_im];grind)
theorem nsq_mul (a b:Cp):(a*b).nsq=a.nsq*b.nsq:=by unfold nsq;simp only[mul_re,mul_im];grind
theorem nsq_nonneg (a:Cp):0≤a.nsq:=by
 have h1:=sq_nonneg a.re; have h2:=sq_nonneg a.im; unfold nsq; grind
theorem nsq_cj (a:Cp):a.cj.nsq=a.nsq:=by unfold nsq;simp only[cj_re,cj_im];grind
theorem mul_cj (a:Cp):a*a.cj=of a.nsq:=ext' (by simp only[mul_re,cj_re,cj_im,of_re,nsq];grind) (by simp only[mul_im,cj_re,cj_im,of_im];grind)
theorem cj_mul (a b:Cp):(a*b).cj=a.cj*b.cj:=ext' (by simp only[mul_re,cj_re,cj_im];grind) (by simp only[mul_im,cj_re,cj_im];grind)
theorem cj_add (a b:Cp):(a+b).cj=a.cj+b.cj:=ext' (by simp only[add_re,cj_re]) (by simp only[add_im,cj_im];grind)
theorem cj_one:one.cj=one:=ext' rfl (by simp only[cj_im,one_im];grind)
theorem cj_pw (z:Cp):∀ n,(pw z n).cj=pw z.cj n
 |0=>cj_one
 |n+1=>by simp only[pw];rw[cj_mul,cj_pw z n]
theorem pw_add (z:Cp) (m:Nat):∀ n,pw z (m+n)=pw z m*pw z n
 |0=>by simp only[pw,Nat.add_zero];rw[mul_one]
 |n+1=>by rw[← Nat.add_assoc];simp only[pw];rw[pw_add z m n,mul_assoc]
theorem pw_one (z:Cp):pw z 1=z:=by simp only[pw];rw[one_mul]
theorem pw_mul (z w:Cp):∀ n,pw (z*w) n=pw z n*pw w n
 |0=>by simp only[pw];rw[mul_one]
 |n+1=>by simp only[pw];rw[pw_mul z w n,mul_assoc,mul_assoc,mul_left_comm (pw w n)]
theorem pw_unit:∀ n,pw one n=one
 |0=>rfl
 |n+1=>by simp only[pw];rw[pw_unit n,mul_one]
theorem inv_mul {a:Cp} (h:a.nsq≠0):a*a.inv=one:=by
 have e:=Rat.mul_inv_cancel a.nsq h; have hn:a.nsq=a.re*a.re+a.im*a.im:=rfl; refine ext' ?_ ?_
 ·simp only[mul_re,inv,one_re,Rat.div_def]
  generalize (a.nsq)⁻¹=q at *
  grind
 ·simp only[mul_im,inv,one_im,Rat.div_def]
  grind
theorem cancel {a b c:Cp} (h:a.nsq≠0) (e:a*b=a*c):b=c:=by
 have h1:a.inv*(a*b)=a.inv*(a*c):=by rw[e]
 rw[← mul_assoc,← mul_assoc,mul_comm a.inv a,inv_mul h,one_mul,one_mul]at h1
 exact h1
end Cp
def Nm (z:Cp) (r:Rat):Prop:=0≤r∧z.nsq≤r*r
def Ng (z:Cp) (r:Rat):Prop:=0≤r∧r*r≤z.nsq
theorem sq_le_sq {x y:Rat} (h0:0≤x) (h:x≤y):x*x≤y*y:=mul_mono' h h h0 (Rat.le_trans h0 h)
theorem le_of_sq {x y:Rat} (h0:0≤y) (h:x*x≤y*y):x≤y:=by
 refine Rat.not_lt.1 fun hl=>?_
 have h1:=Rat.mul_lt_mul_of_pos_left hl (show 0<x by grind); have h2:=Rat.mul_le_mul_of_nonneg_right (Rat.le_of_lt hl) h0; grind
theorem cross {a b:Cp} {r s:Rat} (h:Nm a r) (g:Nm b s):a.re*b.re+a.im*b.im≤r*s:=by
 obtain⟨h0,h1⟩:=h
 obtain⟨g0,g1⟩:=g
 refine le_of_sq (Rat.mul_nonneg h0 g0) ?_
 have e:(a.re*b.re+a.im*b.im)*(a.re*b.re+a.im*b.im)+(a.re*b.im-a.im*b.re)*(a.re*b.im-a.im*b.re)=a.nsq*b.nsq:=by unfold Cp.nsq;grind
 have n:=sq_nonneg (a.re*b.im-a.im*b.re); have m:=mul_mono' h1 g1 b.nsq_nonneg (Rat.mul_nonneg h0 h0); grind
theorem Nm.add {a b:Cp} {r s:Rat} (h:Nm a r) (g:Nm b s):Nm (a+b) (r+s):=by
 have c:=cross h g
 obtain⟨h0,h1⟩:=h
 obtain⟨g0,g1⟩:=g
 refine⟨by grind,?_⟩
 have e:(a+b).nsq=a.nsq+b.nsq+2*(a.re*b.re+a.im*b.im):=by unfold Cp.nsq;simp only[Cp.add_re,Cp.add_im];grind
 grind
theorem Nm.neg {a:Cp} {r:Rat} (h:Nm a r):Nm (-a) r:=by
 refine⟨h.1,?_⟩
 have e:(-a).nsq=a.nsq:=by unfold Cp.nsq;simp only[Cp.neg_re,Cp.neg_im];grind
 rw[e];exact h.2
theorem Nm.sub {a b:Cp} {r s:Rat} (h:Nm a r) (g:Nm b s):Nm (a-b) (r+s):=by rw[Cp.sub_eq];exact h.add g.neg
theorem Nm.comm {a b:Cp} {r:Rat} (h:Nm (a-b) r):Nm (b-a) r:=by
 have:=h.neg
 rwa [show -(a-b)=b-a from Cp.ext' (by simp only[Cp.neg_re,Cp.sub_re];grind) (by simp only[Cp.neg_im,Cp.sub_im];grind)]at this
theorem Nm.mul {a b:Cp} {r s:Rat} (h:Nm a r) (g:Nm b s):Nm (a*b) (r*s):=by
 refine⟨Rat.mul_nonneg h.1 g.1,?_⟩
 rw[Cp.nsq_mul]
 have m:=mul_mono' h.2 g.2 b.nsq_nonneg (Rat.mul_nonneg h.1 h.1); grind
theorem Nm.mono {a:Cp} {r s:Rat} (h:Nm a r) (g:r≤s):Nm a s:=⟨Rat.le_trans h.1 g,Rat.le_trans h.2 (sq_le_sq h.1 g)⟩
theorem Nm.cj {a:Cp} {r:Rat} (h:Nm a r):Nm a.cj r:=⟨h.1,by rw[Cp.nsq_cj];exact h.2⟩
theorem Nm.tri {a b c:Cp} {r s:Rat} (h:Nm (a-b) r) (g:Nm (b-c) s):Nm (a-c) (r+s):=by
 have:=h.add g
 rwa [show a-b+(b-c)=a-c from Cp.ext' (by simp only[Cp.add_re,Cp.sub_re];grind) (by simp only[Cp.add_im,Cp.sub_im];grind)]at this
theorem Nm.near {a b:Cp} {r s:Rat} (h:Nm (a-b) r) (g:Nm b s):Nm a (r+s):=by
 have:=h.add g
 rwa [show a-b+b=a from Cp.ext' (by simp only[Cp.add_re,Cp.sub_re];grind) (by simp only[Cp.add_im,Cp.sub_im];grind)]at this
theorem nm_zero:Nm Cp.zero 0:=⟨Rat.le_refl,by unfold Cp.nsq;simp only[Cp.zero_re,Cp.zero_im];grind⟩
theorem nm_one:Nm Cp.one 1:=⟨by decide,by unfold Cp.nsq;simp only[Cp.one_re,Cp.one_im];grind⟩
theorem nm_of {x r:Rat} (h:x.abs≤r):Nm (Cp.of x) r:=by
 have h0:=Rat.le_trans (abs_nonneg x) h
 refine⟨h0,?_⟩
 have:=sq_le_sq (abs_nonneg x) h
 have e:x.abs*x.abs=x*x:=by rw[← abs_mul,Rat.abs_of_nonneg (sq_nonneg x)]
 unfold Cp.nsq; simp only[Cp.of_re,Cp.of_im]; grind
theorem nm_pw {z:Cp} {r:Rat} (h:Nm z r):∀ n,Nm (z.pw n) (r^n)
 |0=>by rw[Rat.pow_zero];exact nm_one
 |n+1=>by rw[Rat.pow_succ];exact(nm_pw h n).mul h
theorem Nm.re {a:Cp} {r:Rat} (h:Nm a r):a.re.abs≤r:=by
 have h2:=h.2; have n:=sq_nonneg a.im; unfold Cp.nsq at h2; refine le_of_sq h.1 ?_; have e:a.re.abs*a.re.abs=a.re*a.re:=by rw[← abs_mul,Rat.abs_of_nonneg (sq_nonneg _)]
 grind
theorem Nm.im {a:Cp} {r:Rat} (h:Nm a r):a.im.abs≤r:=by
 have h2:=h.2; have n:=sq_nonneg a.re; unfold Cp.nsq at h2; refine le_of_sq h.1 ?_; have e:a.im.abs*a.im.abs=a.im*a.im:=by rw[← abs_mul,Rat.abs_of_nonneg (sq_nonneg _)]
 grind
theorem nm_parts {a:Cp} {r s:Rat} (h:a.re.abs≤r) (g:a.im.abs≤s):Nm a (r+s):=by
 have h0:=Rat.le_trans (abs_nonneg _) h; have g0:=Rat.le_trans (abs_nonneg _) g
 refine⟨by grind,?_⟩
 have h1:=sq_le_sq (abs_nonneg _) h; have g1:=sq_le_sq (abs_nonneg _) g; have e1:a.re.abs*a.re.abs=a.re*a.re:=by rw[← abs_mul,Rat.abs_of_nonneg (sq_nonneg _)]
 have e2:a.im.abs*a.im.abs=a.im*a.im:=by rw[← abs_mul,Rat.abs_of_nonneg (sq_nonneg _)]
 have:=Rat.mul_nonneg h0 g0
 unfold Cp.nsq; grind
theorem nm_root {a:Cp} {r:Rat} (h:a.re.abs≤r) (g:a.im.abs≤r):Nm a (3/2*r):=by
 have h0:=Rat.le_trans (abs_nonneg _) h
 refine⟨by grind,?_⟩
 have h1:=sq_le_sq (abs_nonneg _) h; have g1:=sq_le_sq (abs_nonneg _) g; have e1:a.re.abs*a.re.abs=a.re*a.re:=by rw[← abs_mul,Rat.abs_of_nonneg (sq_nonneg _)]
 have e2:a.im.abs*a.im.abs=a.im*a.im:=by rw[← abs_mul,Rat.abs_of_nonneg (sq_nonneg _)]
 have:=Rat.mul_nonneg h0 h0
 unfold Cp.nsq; grind
theorem Ng.mul {a b:Cp} {r s:Rat} (h:Ng a r) (g:Ng b s):Ng (a*b) (r*s):=by
 refine⟨Rat.mul_nonneg h.1 g.1,?_⟩
 rw[Cp.nsq_mul]
 have m:=mul_mono' h.2 g.2 (Rat.mul_nonneg g.1 g.1) a.nsq_nonneg; grind
theorem Ng.mono {a:Cp} {r s:Rat} (h:Ng a r) (h0:0≤s) (g:s≤r):Ng a s:=⟨h0,Rat.le_trans (sq_le_sq h0 g) h.2⟩
theorem ng_le_nm {a:Cp} {r s:Rat} (h:Ng a r) (g:Nm a s):r≤s:=le_of_sq g.1 (Rat.le_trans h.2 g.2)
theorem ng_sub {a b:Cp} {r s:Rat} (h:Ng a r) (g:Nm b s) (hs:s≤r):Ng (a+b) (r-s):=by
 refine⟨by grind,?_⟩
 obtain⟨h0,h1⟩:=h
 have c:-(a.re*b.re+a.im*b.im)*-(a.re*b.re+a.im*b.im)≤a.nsq*(s*s):=by
  have e:(a.re*b.re+a.im*b.im)*(a.re*b.re+a.im*b.im)+(a.re*b.im-a.im*b.re)*(a.re*b.im-a.im*b.re)=a.nsq*b.nsq:=by unfold Cp.nsq;grind
  have n:=sq_nonneg (a.re*b.im-a.im*b.re); have m:=Rat.mul_le_mul_of_nonneg_left g.2 a.nsq_nonneg; grind
 have e:(a+b).nsq=a.nsq+b.nsq+2*(a.re*b.re+a.im*b.im):=by unfold Cp.nsq;simp only[Cp.add_re,Cp.add_im];grind
 have cb:-(a.re*b.re+a.im*b.im)*-(a.re*b.re+a.im*b.im)≤a.nsq*b.nsq:=by
  have e:(a.re*b.re+a.im*b.im)*(a.re*b.re+a.im*b.im)+(a.re*b.im-a.im*b.re)*(a.re*b.im-a.im*b.re)=a.nsq*b.nsq:=by unfold Cp.nsq;grind
  have n:=sq_nonneg (a.re*b.im-a.im*b.re); grind
 rw[e]
 have hN:=a.nsq_nonneg; have hB:=b.nsq_nonneg; have hBs:=g.2; generalize a.re*b.re+a.im*b.im=t at *
 generalize a.nsq=N at *
 generalize b.nsq=B at *
 have hs0:=g.1; refine Rat.not_lt.1 fun hl=>?_
 have hX:0≤N+B-(r-s)*(r-s):=by
  have:=Rat.mul_nonneg h0 hs0
  have:=Rat.mul_le_mul_of_nonneg_left hs hs0
  grind
 have h2:N+B-(r-s)*(r-s) < -2*t:=by grind
 have h3:(N+B-(r-s)*(r-s))*(N+B-(r-s)*(r-s))<(-2*t)*(-2*t):=by
  have k1:=Rat.mul_le_mul_of_nonneg_left (Rat.le_of_lt h2) hX; have k2:=Rat.mul_lt_mul_of_pos_right h2 (show 0 < -2*t by grind); grind
 have h4:(N+B-(r-s)*(r-s))*(N+B-(r-s)*(r-s))<4*(N*B):=by grind
 have h5:(N-B-(r*r-s*s))*(N-B-(r*r-s*s))+0 ≥ 0:=by have:=sq_nonneg (N-B-(r*r-s*s));grind
 have u0:0≤N-r*r:=by grind
 have v0:0≤s*s-B:=by grind
 have key:(N+B-(r-s)*(r-s))*(N+B-(r-s)*(r-s))-4*(N*B)=(N-r*r+(s*s-B))*(N-r*r+(s*s-B))+4*(s*(r-s))*(N-r*r)+4*(r*(r-s))*(s*s-B):=by grind
 have p1:=sq_nonneg (N-r*r+(s*s-B)); have p2:=Rat.mul_nonneg (Rat.mul_nonneg hs0 (show 0≤r-s by grind)) u0; have p3:=Rat.mul_nonneg (Rat.mul_nonneg h0 (show 0≤r-s by grind)) v0; grind
end Go.Vx
namespace Go.Vm
open Ieee
theorem rnd_nonneg {w:Nat} {x z:Rat} (h:Is w z) (q:Rnd x z) (hx:0≤x):0≤z:=by
 obtain⟨K,e,k1,k2,k3,rfl⟩:=is_rep h
 rcases Int.lt_or_le K 0 with hK|hK
 ·exfalso; have pe:=p2_pos e; have hK':(K:Rat)≤-1:=by
   have:K≤-1:=by omega
   have h2:(K:Rat)≤((-1:Int):Rat):=by exact_mod_cast this
   rwa [show ((-1:Int):Rat)=-1 by norm_cast]at h2
  have m:=Rat.mul_le_mul_of_nonneg_right hK' (Rat.le_of_lt pe); have p1:=p2_le (show (-1074:Int)≤e by omega); have p2:=p2_half (-1074)
  rw[show (-1074-1:Int)=-1075 by decide]at p2
  have p3:=p2_pos (-1075); have p53:=p2_le (show (-53:Int)≤0 by decide)
  rw[Rat.zpow_zero]at p53
  have p54:=p2_pos (-53); rcases q.near with g|g
  ·rw[Rat.abs_of_nonneg hx]at g
   have:=abs_le_iff.1 g
   have m2:=Rat.mul_le_mul_of_nonneg_left p53 hx; grind
  ·have:=abs_le_iff.1 g
   grind
 ·exact Rat.mul_nonneg (by exact_mod_cast hK) (Rat.le_of_lt (p2_pos e))
theorem write_inf (s:Bool):double.read (double.write (.infinity s))=.infinity s:=by cases s<;>decide
def tn:Rat:=(2:Rat)^(-1074:Int)
theorem tn_pos:0<tn:=p2_pos _
theorem tn_small:tn≤eps*(1/1000000):=by
 unfold tn eps; have h:=p2_le (show (-1074:Int)≤-51+-20 by decide)
 rw[p2_add,p20m]at h
 have:=p2_pos (-51)
 grind
theorem q4:(2:Rat)^(-53:Int)=eps/4:=by
 unfold eps; have h1:=p2_half (-51); have h2:=p2_half (-52)
 rw[show (-51-1:Int)=-52 by decide]at h1
 rw[show (-52-1:Int)=-53 by decide]at h2
 grind
theorem Rnd.fine {x z:Rat} (h:Rnd x z):(z-x).abs≤x.abs*(eps/4)+tn:=by
 have t:=tn_pos; have n:=abs_nonneg x; have m:=Rat.mul_nonneg n (show 0≤eps/4 by have:=eps_pos;grind); rcases h.near with g|g
 ·rw[q4]at g;grind
 ·have:=p2_le (show (-1075:Int)≤-1074 by decide)
  unfold tn at *
  grind
theorem Rnd2.fine {x z:Rat} (h:Rnd2 x z):(z-x).abs≤x.abs*(eps/2)+tn:=by
 have t:=tn_pos; have n:=abs_nonneg x; have m:=Rat.mul_nonneg n (show 0≤eps/2 by have:=eps_pos;grind); have e:(2:Rat)^(-52:Int)=eps/2:=by
  unfold eps; have h1:=p2_half (-51)
  rw[show (-51-1:Int)=-52 by decide]at h1
  grind
 rcases h.near with g|g
 ·rw[e]at g;grind
 ·unfold tn at *;grind
theorem sq_abs (x:Rat):(x*x).abs=x*x:=Rat.abs_of_nonneg (sq_nonneg x)
theorem lengthK_pre {a b:Nat} {x y:Rat} (ha:Is a x) (hb:Is b y) {g:Nat} {G:Rat} (hg:Is g G) (hG0:G≠0) (hgk:∀(R:Type) (k:Nat→Option R),greatestK R a b k=k g) (R:Type) (k:Nat→Option R):
  lengthK R a b k=scaledK R a b fun x y e=>squareK R x y fun s=>sqrtK R s fun r=>scaleK R r e k:=by
 unfold lengthK lengthB
 rw[isInfK_no ha,forceB_eq]
 simp only
 rw[isInfK_no hb,forceB_eq]
 simp only
 rw[isNanK_no ha,forceB_eq]
 simp only
 rw[isNanK_no hb,forceB_eq]
 simp only
 rw[hgk,forceB_eq,eqF_is hg is_zero,show ((0:Int):Rat)=0 from rfl,decide_eq_false hG0]
theorem le_of_sq_le {x y:Rat} (hy:0≤y) (h:x*x≤y*y):x≤y:=by
 refine Rat.not_lt.1 fun hc=>?_
 have h1:=Rat.mul_lt_mul_of_pos_right hc (show 0<x by grind); have h2:=Rat.mul_le_mul_of_nonneg_left (Rat.le_of_lt hc) hy; grind
theorem eps6:eps≤1/1000000:=by rw[eps_eq];grind
def big200:Rat:=(2:Rat)^(200:Int)
theorem big200_lt {x:Rat} (h:x.abs≤big200):x.abs<(2:Rat)^(1023:Int):=by
 have h1:=p2_le (show (201:Int)≤1023 by decide); have h2:=p2_half 201
 rw[show (201-1:Int)=200 by decide]at h2
 have:=p2_pos 200
 unfold big200 at h; grind
section
variable {a b:Nat} {A B:Rat}
theorem fine_mul (ha:Is a A) (hb:Is b B) (h:A.abs*B.abs≤big200):∃ c C,fbF .mul a b=some c∧Is c C∧(C-A*B).abs≤eps/4*(A.abs*B.abs)+tn∧(A=0∨B=0→C=0):=by
 obtain⟨c,C,g1,g2,g3⟩:=mul_is ha hb (big200_lt (by rw[abs_mul];exact h))
 refine⟨c,C,g1,g2,?_,fun h0=>?_⟩
 ·have:=g3.fine
  rw[abs_mul]at this
  grind
 ·have e:A*B=0:=by rcases h0 with h0|h0<;>rw[h0]<;>grind
  have:=g3.rep 0 0 (by decide) (by decide) (by rw[e];simp)
  rw[this,e]
theorem fine_add (ha:Is a A) (hb:Is b B) (h:A.abs+B.abs≤big200):∃ c C,fbF .add a b=some c∧Is c C∧(C-(A+B)).abs≤eps/4*(A.abs+B.abs)+tn∧(A+B=0→C=0)∧(0≤A+B→0≤C):=by
 have hx:(A+B).abs≤A.abs+B.abs:=abs_add_le A B
 obtain⟨c,C,g1,g2,g3⟩:=add_is ha hb (big200_lt (Rat.le_trans hx h))
 refine⟨c,C,g1,g2,?_,fun h0=>?_,fun h0=>rnd_nonneg g2 g3 h0⟩
 ·have:=g3.fine
  have ep:=eps_pos
  have:=Rat.mul_le_mul_of_nonneg_left hx (show 0≤eps/4 by grind)
  grind
 ·have:=g3.rep 0 0 (by decide) (by decide) (by rw[h0];simp)
  rw[this,h0]
end
end Go.Vm
namespace Go.Vx
open Go.Vm
def IsZ (a b:Nat) (z:Cp):Prop:=Is a z.re∧Is b z.im
def Rl (z Z:Cp) (δ:Rat):Prop:=∃ e,Nm e δ∧z=Z*(Cp.one+e)
theorem Rl.mono {z Z:Cp} {δ γ:Rat} (h:Rl z Z δ) (g:δ≤γ):Rl z Z γ:=let ⟨e,h1,h2⟩:=h;⟨e,h1.mono g,h2⟩
theorem Rl.refl (z:Cp) {δ:Rat} (h:0≤δ):Rl z z δ:=⟨Cp.zero,nm_zero.mono h,by rw[Cp.add_zero,Cp.mul_one]⟩
theorem one_mix (a b:Cp):(Cp.one+a)*(Cp.one+b)=Cp.one+(a+b+a*b):=by
 rw[Cp.add_mul,Cp.one_mul,Cp.mul_add,Cp.mul_one]
 exact Cp.ext' (by simp only[Cp.add_re];grind) (by simp only[Cp.add_im];grind)
theorem Rl.trans {x y z:Cp} {δ γ:Rat} (h:Rl x y δ) (g:Rl y z γ):Rl x z (δ+γ+δ*γ):=by
 obtain⟨a,a1,rfl⟩:=h
 obtain⟨b,b1,rfl⟩:=g
 refine⟨b+a+b*a,?_,by rw[Cp.mul_assoc,one_mix]⟩
 have:=(b1.add a1).add (b1.mul a1)
 exact this.mono (by grind)
theorem Rl.mul {x X y Y:Cp} {δ γ:Rat} (h:Rl x X δ) (g:Rl y Y γ):Rl (x*y) (X*Y) (δ+γ+δ*γ):=by
 obtain⟨a,a1,rfl⟩:=h
 obtain⟨b,b1,rfl⟩:=g
 refine⟨a+b+a*b,(a1.add b1).add (a1.mul b1),?_⟩
 rw[← one_mix,Cp.mul_assoc,Cp.mul_assoc,Cp.mul_left_comm Y]
theorem Rl.err {z Z:Cp} {δ r:Rat} (h:Rl z Z δ) (g:Nm Z r):Nm (z-Z) (r*δ):=by
 obtain⟨e,e1,rfl⟩:=h
 have:Z*(Cp.one+e)-Z=Z*e:=by rw[Cp.mul_add,Cp.mul_one];exact Cp.ext' (by simp only[Cp.add_re,Cp.sub_re];grind) (by simp only[Cp.add_im,Cp.sub_im];grind)
 rw[this]
 exact g.mul e1
theorem Rl.zero {z Z:Cp} {δ:Rat} (h:Rl z Z δ) (g:Z=Cp.zero):z=Cp.zero:=by
 obtain⟨e,e1,rfl⟩:=h
 rw[g,Cp.zero_mul]
theorem zero_of_nsq {z:Cp} (h:z.nsq=0):z=Cp.zero:=by
 unfold Cp.nsq at h; have h1:=sq_nonneg z.re; have h2:=sq_nonneg z.im; have g:∀{x:Rat},x*x=0→x=0:=fun{x} hx=>by
  rcases Rat.mul_eq_zero.1 hx with h|h<;>exact h
 exact Cp.ext' (g (by grind)) (g (by grind))
theorem nsq_inv {z:Cp} (h:z.nsq≠0):z.nsq*z.inv.nsq=1:=by
 have e:=congrArg Cp.nsq (Cp.inv_mul h)
 rw[Cp.nsq_mul]at e
 rw[e]
 unfold Cp.nsq; simp only[Cp.one_re,Cp.one_im]; grind
theorem rl_of_sq {z Z:Cp} {δ:Rat} (h0:0≤δ) (hz:Z.nsq≠0) (h:(z-Z).nsq≤δ*δ*Z.nsq):Rl z Z δ:=by
 refine⟨(z-Z)*Z.inv,⟨h0,?_⟩,?_⟩
 ·rw[Cp.nsq_mul]
  have i0:=Z.inv.nsq_nonneg
  have:=Rat.mul_le_mul_of_nonneg_right h i0
  have e:=nsq_inv hz
  have:δ*δ*Z.nsq*Z.inv.nsq=δ*δ:=by rw[Rat.mul_assoc,e];grind
  grind
 ·rw[Cp.mul_add,Cp.mul_one,Cp.mul_left_comm,Cp.inv_mul hz,Cp.mul_one]
  exact Cp.ext' (by simp only[Cp.add_re,Cp.sub_re];grind) (by simp only[Cp.add_im,Cp.sub_im];grind)
theorem abs_sq (x:Rat):x.abs*x.abs=x*x:=by rw[← abs_mul,Rat.abs_of_nonneg (sq_nonneg _)]
theorem cauchy {a b c d:Rat}:(a.abs*c.abs+b.abs*d.abs)*(a.abs*c.abs+b.abs*d.abs)≤(a*a+b*b)*(c*c+d*d):=by
 have h:=sq_nonneg (a.abs*d.abs-b.abs*c.abs); have e1:=abs_sq a; have e2:=abs_sq b; have e3:=abs_sq c; have e4:=abs_sq d
 rw[← e1,← e2,← e3,← e4]
 generalize a.abs=p at *
 generalize b.abs=q at *
 generalize c.abs=r at *
 generalize d.abs=s at *
 grind
theorem part_err {x1 X1 x2 X2 z u v:Rat} (h1:(X1-u).abs≤eps/4*x1+tn) (h2:(X2-v).abs≤eps/4*x2+tn) (hu:u.abs≤x1) (hv:v.abs≤x2) (h3:(z-(X1+X2)).abs≤eps/4*(X1.abs+X2.abs)+tn):
  (z-(u+v)).abs≤501/1000*eps*(x1+x2)+4*tn:=by
 have ep:=eps_pos; have el:=eps_le; have t0:=tn_pos; have n1:=Rat.le_trans (abs_nonneg u) hu; have n2:=Rat.le_trans (abs_nonneg v) hv; have a1:X1.abs≤x1+(eps/4*x1+tn):=by
  have:=abs_add_le (X1-u) u
  rw[show X1-u+u=X1 by grind]at this
  grind
 have a2:X2.abs≤x2+(eps/4*x2+tn):=by
  have:=abs_add_le (X2-v) v
  rw[show X2-v+v=X2 by grind]at this
  grind
 have b1:=abs_add_le (z-(X1+X2)) (X1-u+(X2-v))
 rw[show z-(X1+X2)+(X1-u+(X2-v))=z-(u+v) by grind]at b1
 have b2:=abs_add_le (X1-u) (X2-v); have c1:=Rat.mul_le_mul_of_nonneg_left (show X1.abs+X2.abs≤x1+x2+(eps/4*x1+eps/4*x2+2*tn) by grind) (show 0≤eps/4 by grind); have c2:=Rat.mul_le_mul_of_nonneg_right el (Rat.mul_nonneg (Rat.le_of_lt ep) (show 0≤x1+x2 by grind)); have c3:=Rat.mul_le_mul_of_nonneg_right el (Rat.le_of_lt t0); have c4:=Rat.mul_nonneg (Rat.le_of_lt ep) (show 0≤x1+x2 by grind); generalize (z-(u+v)).abs=Q at *
 generalize (z-(X1+X2)).abs=Q1 at *
 generalize (X1-u+(X2-v)).abs=Q2 at *
 generalize (X1-u).abs=Q3 at *
 generalize (X2-v).abs=Q4 at *
 generalize X1.abs=Q5 at *
 generalize X2.abs=Q6 at *
 clear hu hv n1 n2; grind
theorem sq_part {z X m N:Rat} (h:z.abs≤501/1000*eps*X+4*tn) (X0:0≤X) (m0:0≤m) (hm:4*tn≤1/1000*eps*m) (hX:X*X≤N) (hmN:m*m≤N):z*z≤26/100*(eps*eps)*N:=by
 have ep:=eps_pos; have h1:z.abs≤eps*(501/1000*X+1/1000*m):=by grind
 have h2:=mul_mono' h1 h1 (abs_nonneg z) (Rat.mul_nonneg (Rat.le_of_lt ep) (by grind))
 rw[abs_sq]at h2
 have ee:=Rat.mul_nonneg (Rat.le_of_lt ep) (Rat.le_of_lt ep); have h3:(501/1000*X+1/1000*m)*(501/1000*X+1/1000*m)≤26/100*N:=by
  have:=sq_nonneg (X-m)
  have:=sq_nonneg X
  clear h h1 h2 hm ep; grind
 have:=Rat.mul_le_mul_of_nonneg_left h3 ee
 grind
theorem size_of {A:Cp} {r:Rat} (h:Nm A r):A.re.abs≤r∧A.im.abs≤r:=⟨h.re,h.im⟩
theorem mulK_rel {a b c d:Nat} {A B:Cp} (hA:IsZ a b A) (hB:IsZ c d B) {r s m:Rat} (rA:Nm A r) (sB:Nm B s) (big:16*(r*s)+1≤big200) (h0:A=Cp.zero∨B=Cp.zero∨(Ng (A*B) m∧4*tn≤1/1000*eps*m)):
  ∃ p q P,IsZ p q P∧Rl P (A*B) eps∧∀(R:Type) (k:Nat→Nat→Option R),mulK R a b c d k=k p q:=by
 have ep:=eps_pos; have el:=eps_le; have t0:=tn_pos; have ts:=tn_small
 obtain⟨A1,A2⟩:=hA
 obtain⟨B1,B2⟩:=hB
 obtain⟨a1,a2⟩:=size_of rA
 obtain⟨b1,b2⟩:=size_of sB
 have bd:∀{u v:Rat},u.abs≤r→v.abs≤s→u.abs*v.abs≤r*s:=fun{u v} h1 h2=>mul_mono' h1 h2 (abs_nonneg v) rA.1
 have rs0:=Rat.mul_nonneg rA.1 sB.1
 obtain⟨x1,X1,f1,i1,e1,z1⟩:=fine_mul A1 B1 (Rat.le_trans (bd a1 b1) (by grind))
 obtain⟨x2,X2,f2,i2,e2,z2⟩:=fine_mul A2 B2 (Rat.le_trans (bd a2 b2) (by grind))
 obtain⟨x3,X3,f3,i3,e3,z3⟩:=fine_mul A1 B2 (Rat.le_trans (bd a1 b2) (by grind))
 obtain⟨x4,X4,f4,i4,e4,z4⟩:=fine_mul A2 B1 (Rat.le_trans (bd a2 b1) (by grind))
 have sz:∀{u X:Rat} {v w:Rat},(X-u).abs≤eps/4*(v.abs*w.abs)+tn→u=v*w→v.abs≤r→w.abs≤s→X.abs≤2*(r*s)+1/4:=fun{u X v w} h1 h2 h3 h4=>by
  have q:=bd h3 h4
  have:=abs_add_le (X-u) u
  rw[show X-u+u=X by grind,h2,abs_mul]at this
  have c:=Rat.mul_le_mul_of_nonneg_right (show eps/4≤1/2 by grind) (Rat.mul_nonneg (abs_nonneg v) (abs_nonneg w))
  rw[h2]at h1
  grind
 have s1:=sz e1 rfl a1 b1; have s2:=sz e2 rfl a2 b2; have s3:=sz e3 rfl a1 b2; have s4:=sz e4 rfl a2 b1
 obtain⟨y1,Y1,g1,j1,d1⟩:=sub_is i1 i2 (big200_lt (Rat.le_trans (show (X1-X2).abs≤X1.abs+X2.abs by have:=abs_add_le X1 (-X2);rw[abs_neg]at this;grind) (by grind)))
 obtain⟨y2,Y2,g2,j2,d2⟩:=add_is i3 i4 (big200_lt (Rat.le_trans (abs_add_le X3 X4) (by grind)))
 have run:∀(R:Type) (k:Nat→Nat→Option R),mulK R a b c d k=k y1 y2:=fun R k=>by
  unfold mulK
  rw[bindF_eq f1,bindF_eq f2,bindF_eq g1,bindF_eq f3,bindF_eq f4,bindF_eq g2]
 refine⟨y1,y2,⟨Y1,Y2⟩,⟨j1,j2⟩,?_,run⟩
 have p1:(Y1-(A.re*B.re+-(A.im*B.im))).abs≤501/1000*eps*(A.re.abs*B.re.abs+A.im.abs*B.im.abs)+4*tn:=by
  refine part_err (X1:=X1) (X2:=-X2) e1 ?_ (by rw[abs_mul];exact Rat.le_refl) (by rw[abs_neg,abs_mul];exact Rat.le_refl) ?_
  ·rw[show -X2 - -(A.im*B.im)=-(X2-A.im*B.im) by grind,abs_neg];exact e2
  ·have:=d1.fine
   have t:=abs_add_le X1 (-X2)
   rw[abs_neg,show X1+-X2=X1-X2 by grind]at t
   rw[abs_neg,show Y1-(X1+-X2)=Y1-(X1-X2) by grind]
   have:=Rat.mul_le_mul_of_nonneg_right t (show 0≤eps/4 by grind)
   grind
 have p2:(Y2-(A.re*B.im+A.im*B.re)).abs≤501/1000*eps*(A.re.abs*B.im.abs+A.im.abs*B.re.abs)+4*tn:=by
  refine part_err (X1:=X3) (X2:=X4) e3 e4 (by rw[abs_mul];exact Rat.le_refl) (by rw[abs_mul];exact Rat.le_refl) ?_
  have:=d2.fine
  have t:=abs_add_le X3 X4
  have:=Rat.mul_le_mul_of_nonneg_right t (show 0≤eps/4 by grind)
  grind
 have zero_all:(A.re=0∧A.im=0)∨(B.re=0∧B.im=0)→Rl ⟨Y1,Y2⟩ (A*B) eps:=fun h=>by
  have q1:X1=0:=z1 (h.imp (fun h=>h.1) fun h=>h.1); have q2:X2=0:=z2 (h.imp (fun h=>h.2) fun h=>h.2); have q3:X3=0:=z3 (h.imp (fun h=>h.1) fun h=>h.2); have q4:X4=0:=z4 (h.imp (fun h=>h.2) fun h=>h.1); subst q1 q2 q3 q4; have w1:=rnd_zero d1 (by grind); have w2:=rnd_zero d2 (by grind)
  have:A*B=Cp.zero:=by
   rcases h with h|h
   ·refine Cp.ext' ?_ ?_
    ·rw[Cp.mul_re,h.1,h.2,Cp.zero_re];grind
    ·rw[Cp.mul_im,h.1,h.2,Cp.zero_im];grind
   ·refine Cp.ext' ?_ ?_
    ·rw[Cp.mul_re,h.1,h.2,Cp.zero_re];grind
    ·rw[Cp.mul_im,h.1,h.2,Cp.zero_im];grind
  rw[this,show (⟨Y1,Y2⟩:Cp)=Cp.zero from Cp.ext' w1 w2]
  exact Rl.refl _ (Rat.le_of_lt ep)
 rcases h0 with h0|h0|⟨hm,htn⟩
 ·exact zero_all (.inl (by rw[h0];exact⟨rfl,rfl⟩))
 ·exact zero_all (.inr (by rw[h0];exact⟨rfl,rfl⟩))
 ·have c1:=cauchy (a:=A.re) (b:=A.im) (c:=B.re) (d:=B.im); have c2:=cauchy (a:=A.re) (b:=A.im) (c:=B.im) (d:=B.re); have eN:(A*B).nsq=(A.re*A.re+A.im*A.im)*(B.re*B.re+B.im*B.im):=Cp.nsq_mul A B; have hmN:=hm.2; have m0:=hm.1; have mpos:0<m:=by
   refine Rat.not_le.1 fun hl=>?_
   have:=Rat.mul_nonneg (show (0:Rat)≤1/1000*eps by grind) (show 0≤-m by grind)
   grind
  have N0:(A*B).nsq≠0:=fun e=>by
   have:=Rat.mul_pos mpos mpos
   grind
  rw[eN]at hmN
  have k1:=sq_part p1 (by have:=Rat.mul_nonneg (abs_nonneg A.re) (abs_nonneg B.re);have:=Rat.mul_nonneg (abs_nonneg A.im) (abs_nonneg B.im);grind) m0 htn c1 hmN; have k2:=sq_part p2 (by have:=Rat.mul_nonneg (abs_nonneg A.re) (abs_nonneg B.im);have:=Rat.mul_nonneg (abs_nonneg A.im) (abs_nonneg B.re);grind) m0 htn (by grind) hmN; refine rl_of_sq (Rat.le_of_lt ep) N0 ?_
  rw[eN]
  have en:((⟨Y1,Y2⟩:Cp)-A*B).nsq=(Y1-(A.re*B.re+-(A.im*B.im)))*(Y1-(A.re*B.re+-(A.im*B.im)))+(Y2-(A.re*B.im+A.im*B.re))*(Y2-(A.re*B.im+A.im*B.re)):=by
   unfold Cp.nsq; simp only[Cp.sub_re,Cp.sub_im,Cp.mul_re,Cp.mul_im]; grind
  rw[en]
  have ee:=Rat.mul_nonneg (Rat.mul_nonneg (Rat.le_of_lt ep) (Rat.le_of_lt ep)) (Rat.le_trans (Rat.mul_nonneg m0 m0) hmN); grind
end Go.Vx
namespace Go.Vm
open Ieee
theorem quo_zero {a b r:Nat} {z:Rat} (hb:Is b 0) (h:fbF .quo a b=some r) (hr:Is r z):False:=by
 obtain⟨_,t,n,j,hb,hv⟩:=hb
 have hn:n=0:=by
  unfold dv at hv; have p0:=p2_pos j; rcases Nat.eq_zero_or_pos n with h|h
  ·exact h
  ·exfalso
   have:(0:Rat)<(n:Rat):=by exact_mod_cast h
   have:=Rat.mul_pos this p0
   unfold sg at hv; split at hv<;>grind
 subst hn
 rw[fbF_eq]at h
 have h2:((double.read a).quotient (double.fractionBits+2) (double.read b)).map double.write=some r:=h
 rw[hb]at h2
 obtain⟨_,s,m,i,hi,_⟩:=hr
 cases ha:double.read a with
 |nan s t=>rw[ha]at h2;cases h2
 |infinity s'=>
  rw[ha]at h2
  simp only[Datum.quotient,Option.map_some,Option.some.injEq]at h2
  subst h2
  rw[write_inf]at hi
  cases hi
 |number s' m' i'=>
  rw[ha]at h2
  simp only[Datum.quotient,if_true]at h2
  split at h2
  ·cases h2
  ·simp only[Option.map_some,Option.some.injEq]at h2
   subst h2
   rw[write_inf]at hi
   cases hi
theorem bind_is {R:Type} {o:Option Nat} {k:Nat→Option R} {r:R} (h:bindF o k=some r):∃ w,o=some w∧k w=some r:=by
 cases o with
 |none=>cases h
 |some w=>exact⟨w,rfl,by rwa [bindF_eq rfl]at h⟩
end Go.Vm
namespace Go.Vx
open Go.Vm
theorem mul_inv {P D:Cp} (h:D.nsq≠0):P*D.inv*D=P:=by rw[Cp.mul_assoc,Cp.mul_comm D.inv,Cp.inv_mul h,Cp.mul_one]
theorem ng_ne {z:Cp} {m:Rat} (h:Ng z m) (hm:0<m):z.nsq≠0:=fun e=>by
 have:=h.2
 have:=Rat.mul_pos hm hm
 grind
theorem great_part {D:Cp} {m r:Rat} (hm:Ng D m) (hr:Nm D r):∃ W,D.re.abs≤W∧D.im.abs≤W∧(W=D.re.abs∨W=D.im.abs)∧m/2≤W∧W≤r:=by
 have e1:=abs_sq D.re; have e2:=abs_sq D.im; have n1:=abs_nonneg D.re; have n2:=abs_nonneg D.im; have h2:=hm.2; have m0:=hm.1; unfold Cp.nsq at h2
 rw[← e1,← e2]at h2
 have key:∀{a b:Rat},0≤a→0≤b→b≤a→m*m≤a*a+b*b→m/2≤a:=fun{a b} a0 b0 hb h=>by
  refine le_of_sq a0 ?_
  have:=sq_le_sq b0 hb
  have:=Rat.mul_nonneg m0 m0
  grind
 rcases(Rat.le_total:D.re.abs≤D.im.abs∨D.im.abs≤D.re.abs) with h|h
 ·exact⟨_,h,Rat.le_refl,.inr rfl,key n2 n1 h (by grind),hr.im⟩
 ·exact⟨_,Rat.le_refl,h,.inl rfl,key n1 n2 h h2,hr.re⟩
theorem p2_double (q:Int):2*(2:Rat)^q=(2:Rat)^(q+1):=(p2_succ q).symm
theorem absK_eq' {R:Type} (w:Nat) (k:Nat→Option R):absK R w k=k (absW w):=rfl
theorem is_val {w:Nat} {x y:Rat} (h:Is w x) (g:Is w y):x=y:=by
 obtain⟨_,s,m,i,h1,rfl⟩:=h
 obtain⟨_,s',m',i',g1,rfl⟩:=g
 rw[h1]at g1
 cases g1
 rfl
theorem divK_zero {a b c d:Nat} {D:Cp} (ha:Is a 0) (hb:Is b 0) (hD:IsZ c d D) {m r:Rat} (hm:Ng D m) (hr:Nm D r) (m1:(2:Rat)^(-299:Int)≤m) (r1:r≤(2:Rat)^(300:Int)):
  ∃ p q,IsZ p q Cp.zero∧∀(R:Type) (k:Nat→Nat→Option R),divK R a b c d k=k p q:=by
 obtain⟨W,w1,w2,w3,w4,w5⟩:=great_part hm hr
 obtain⟨D1,D2⟩:=hD
 have mm:=p2_double (-300)
 rw[show (-300+1:Int)=-299 by decide]at mm
 have p3:=p2_pos (-300)
 obtain⟨x,y,U,V,i1,i2,d1,d2,run⟩:=divK_near (u:=0) (v:=0) (M:=(2:Rat)^(-300:Int)) ha hb D1 D2 w1 w2 w3 (by grind) (by grind) (by rw[abs_zero];grind) (by rw[abs_zero];grind) Rat.le_refl (p2_le (by decide)) (by grind) (by grind)
 refine⟨x,y,?_,run⟩
 have hrun:=run (Nat×Nat) fun a b=>some (a,b)
 have step:∀{e f g h w:Nat} {z:Rat},fbF .quo g h=some w→Is g 0→Is w z→(∃ T,Is h T)→z=0:=fun{e f g h w z} hq hg hw hT=>by
  obtain⟨T,hT⟩:=hT
  by_cases h0:T=0
  ·subst h0
   exact(quo_zero hT hq hw).elim
  ·obtain⟨r',z',q1,q2,q3⟩:=div_is hg hT h0 (by rw[show (0:Rat)/T=0 by rw[Rat.div_def];grind,abs_zero];exact p2_pos _)
   rw[hq]at q1
   cases q1
   have:=q3.rep 0 0 (by decide) (by decide) (by rw[Rat.div_def];simp)
   rw[show z=z' from is_val hw q2,this,Rat.div_def]
   grind
 have zadd:∀{g h w:Nat} {z:Rat},fbF .add g h=some w→Is g 0→Is h 0→Is w 0:=fun{g h w z} hq hg hh=>by
  obtain⟨c',C,q1,q2,q3,q4,q5⟩:=fine_add hg hh (by rw[abs_zero,Rat.add_zero];exact Rat.le_of_lt (p2_pos 200))
  rw[hq]at q1
  cases q1
  rwa [q4 (by grind)]at q2
 have zsub:∀{g h w:Nat} {z:Rat},fbF .sub g h=some w→Is g 0→Is h 0→Is w 0:=fun{g h w z} hq hg hh=>by
  obtain⟨c',C,q1,q2,q3⟩:=sub_is hg hh (by rw[show (0:Rat)-0=0 by grind,abs_zero];exact p2_pos _)
  rw[hq]at q1
  cases q1
  have:=rnd_zero q3 (by grind)
  rwa [this]at q2
 have zmul:∀{g h w:Nat} {H:Rat},fbF .mul g h=some w→Is g 0→Is h H→Is w 0:=fun{g h w H} hq hg hh=>by
  obtain⟨c',C,q1,q2,q3,q4⟩:=fine_mul hg hh (by rw[abs_zero,Rat.zero_mul];exact Rat.le_of_lt (p2_pos 200))
  rw[hq]at q1
  cases q1
  rwa [q4 (.inl rfl)]at q2
 have key:∀{r s:Nat} {X Y:Rat},Is r X→Is s Y→X≠0→Y.abs≤X.abs→X.abs≤(2:Rat)^(300:Int)→∀{h sh t n1 n2 qh ph:Nat},fbF .quo s r=some h→fbF .mul s h=some sh→(fbF .add r sh=some t∨fbF .add sh r=some t)→(∃ H,Is h H)∧∃ T,Is t T:=fun{r s X Y} hX hY h0 hle hb {h sh t n1 n2 qh ph} e1 e2 e3=>by
  have q:(Y/X).abs≤1:=abs_div_le h0 (by rw[Rat.one_mul];exact hle)
  obtain⟨h',H,g1,g2,g3⟩:=div_is hY hX h0 (by have:=p2_le (show (1:Int)≤1022 by decide);rw[p2_one]at this;grind)
  rw[e1]at g1
  cases g1
  have H2:H.abs≤2:=by
   have:=g3.fine
   have:=abs_add_le (H-Y/X) (Y/X)
   rw[show H-Y/X+Y/X=H by grind]at this
   have el:=eps_le; have ts:=tn_small; have ep:=eps_pos
   have:=Rat.mul_le_mul_of_nonneg_right q (show 0≤eps/2 by grind)
   grind
  have big:Y.abs*H.abs≤(2:Rat)^(301:Int):=by
   have:=mul_mono' (Rat.le_trans hle hb) H2 (abs_nonneg H) (Rat.le_of_lt (p2_pos 300))
   have e:=p2_double 300
   rw[show (300+1:Int)=301 by decide]at e
   grind
  obtain⟨sh',S,k1,k2,k3⟩:=mul_is hY g2 (by rw[abs_mul];have:=p2_half 302;rw[show (302-1:Int)=301 by decide]at this;have:=p2_pos 301;have:=p2_le (show (302:Int)≤1023 by decide);grind)
  rw[e2]at k1
  cases k1
  have S2:S.abs≤(2:Rat)^(302:Int):=by
   have:=k3.fine
   rw[abs_mul]at this
   have:=abs_add_le (S-Y*H) (Y*H)
   rw[show S-Y*H+Y*H=S by grind,abs_mul]at this
   have el:=eps_le; have ts:=tn_small; have ep:=eps_pos
   have:=mul_mono' big (show eps/4≤1/2 by grind) (by grind) (Rat.le_of_lt (p2_pos 301))
   have e:=p2_double 301
   rw[show (301+1:Int)=302 by decide]at e
   have:=one_le_p2 301
   grind
  have sm:(X+S).abs<(2:Rat)^(1023:Int):=by
   have:=abs_add_le X S
   have g1:=p2_le (show (300:Int)≤302 by decide); have e:=p2_double 302
   rw[show (302+1:Int)=303 by decide]at e
   have:=p2_half 304
   rw[show (304-1:Int)=303 by decide]at this
   have:=p2_pos 303
   have:=p2_le (show (304:Int)≤1023 by decide)
   grind
  refine⟨⟨H,g2⟩,?_⟩
  rcases e3 with e3|e3
  ·obtain⟨t',T,m1,m2,m3⟩:=add_is hX k2 sm
   rw[e3]at m1
   cases m1
   exact⟨T,m2⟩
  ·obtain⟨t',T,m1,m2,m3⟩:=add_is k2 hX (by rw[Rat.add_comm];exact sm)
   rw[e3]at m1
   cases m1
   exact⟨T,m2⟩
 have Wp:0<W:=by have:=p2_pos (-300);grind
 change divB absK _ a b c d _=_ at hrun; unfold divB at hrun; simp only[absK_eq',forceB_eq]at hrun; have hge:geF (absW c) (absW d)=decide (D.im.abs≤D.re.abs):=geF_is (abs_is D1) (abs_is D2)
 rw[hge]at hrun
 by_cases hc:D.im.abs≤D.re.abs
 ·rw[decide_eq_true hc]at hrun
  simp only at hrun
  obtain⟨h,o1,hrun⟩:=bind_is hrun
  obtain⟨sh,o2,hrun⟩:=bind_is hrun
  obtain⟨t,o3,hrun⟩:=bind_is hrun
  obtain⟨qh,o4,hrun⟩:=bind_is hrun
  obtain⟨n1,o5,hrun⟩:=bind_is hrun
  obtain⟨re,o6,hrun⟩:=bind_is hrun
  obtain⟨ph,o7,hrun⟩:=bind_is hrun
  obtain⟨n2,o8,hrun⟩:=bind_is hrun
  obtain⟨im,o9,hrun⟩:=bind_is hrun
  simp only[Option.some.injEq,Prod.mk.injEq]at hrun
  obtain⟨rfl,rfl⟩:=hrun
  have X0:D.re≠0:=fun e=>by
   rw[e,abs_zero]at hc w3
   have:=abs_nonneg D.im
   rcases w3 with w3|w3<;>grind
  obtain⟨⟨H,hH⟩,hT⟩:=key (n1:=0) (n2:=0) (qh:=0) (ph:=0) D1 D2 X0 hc (by grind) o1 o2 (.inl o3)
  have q1:=zmul o4 hb hH; have q2:=zadd (z:=0) o5 ha q1; have q3:=zmul o7 ha hH; have q4:=zsub (z:=0) o8 hb q3; have u0:=step (e:=0) (f:=0) o6 q2 i1 hT; have v0:=step (e:=0) (f:=0) o9 q4 i2 hT; subst u0 v0
  exact⟨i1,i2⟩
 ·rw[decide_eq_false hc]at hrun
  simp only at hrun
  obtain⟨h,o1,hrun⟩:=bind_is hrun
  obtain⟨sh,o2,hrun⟩:=bind_is hrun
  obtain⟨t,o3,hrun⟩:=bind_is hrun
  obtain⟨qh,o4,hrun⟩:=bind_is hrun
  obtain⟨n1,o5,hrun⟩:=bind_is hrun
  obtain⟨re,o6,hrun⟩:=bind_is hrun
  obtain⟨ph,o7,hrun⟩:=bind_is hrun
  obtain⟨n2,o8,hrun⟩:=bind_is hrun
  obtain⟨im,o9,hrun⟩:=bind_is hrun
  simp only[Option.some.injEq,Prod.mk.injEq]at hrun
  obtain⟨rfl,rfl⟩:=hrun
  have hc':D.re.abs≤D.im.abs:=by grind
  have X0:D.im≠0:=fun e=>by
   rw[e,abs_zero]at hc'
   have:=abs_nonneg D.re
   grind
  obtain⟨⟨H,hH⟩,hT⟩:=key (n1:=0) (n2:=0) (qh:=0) (ph:=0) D2 D1 X0 hc' (by grind) o1 o2 (.inr o3)
  have q1:=zmul o4 ha hH; have q2:=zadd (z:=0) o5 q1 hb; have q3:=zmul o7 hb hH; have q4:=zsub (z:=0) o8 q3 ha; have u0:=step (e:=0) (f:=0) o6 q2 i1 hT; have v0:=step (e:=0) (f:=0) o9 q4 i2 hT; subst u0 v0
  exact⟨i1,i2⟩
theorem divK_rel {a b c d:Nat} {P D:Cp} (hP:IsZ a b P) (hD:IsZ c d D) {m r:Rat} (hm:Ng D m) (hr:Nm D r) (m1:(2:Rat)^(-299:Int)≤m) (r1:r≤(2:Rat)^(300:Int)) {mq rq:Rat}
  (h:P=Cp.zero∨(Ng (P*D.inv) mq∧Nm (P*D.inv) rq∧(2:Rat)^(-300:Int)≤mq∧rq≤(2:Rat)^(299:Int))):
  ∃ p q Q,IsZ p q Q∧Rl Q (P*D.inv) (64*eps)∧∀(R:Type) (k:Nat→Nat→Option R),divK R a b c d k=k p q:=by
 have ep:=eps_pos; have p3:=p2_pos (-299); have hn:=ng_ne hm (by grind); rcases h with h|⟨h1,h2,h3,h4⟩
 ·subst h
  obtain⟨p,q,g1,g2⟩:=divK_zero hP.1 hP.2 hD hm hr m1 r1
  exact⟨p,q,Cp.zero,g1,by rw[Cp.zero_mul];exact Rl.refl _ (by grind),g2⟩
 ·obtain⟨W,w1,w2,w3,w4,w5⟩:=great_part hm hr
  have mm:=p2_double (-300)
  rw[show (-300+1:Int)=-299 by decide]at mm
  have mm2:=p2_double 299
  rw[show (299+1:Int)=300 by decide]at mm2
  have eP:=mul_inv (P:=P) hn; generalize hQ:P*D.inv=Q at *
  have eu:=congrArg Cp.re eP; have ev:=congrArg Cp.im eP
  rw[Cp.mul_re]at eu
  rw[Cp.mul_im]at ev
  have n1:=abs_nonneg Q.re; have n2:=abs_nonneg Q.im; have q1:=abs_sq Q.re; have q2:=abs_sq Q.im; have low:mq≤Q.re.abs+Q.im.abs:=by
   refine le_of_sq (by grind) ?_
   have:=h1.2
   unfold Cp.nsq at this
   have:=Rat.mul_nonneg n1 n2
   grind
  have up:=h2.re; have up2:=h2.im
  obtain⟨x,y,U,V,i1,i2,d1,d2,run⟩:=divK_near (u:=Q.re) (v:=Q.im) (M:=Q.re.abs+Q.im.abs) hP.1 hP.2 hD.1 hD.2 w1 w2 w3 (by grind) (by grind) (by grind) (by grind) (by grind) (by grind) (by grind) (by grind)
  refine⟨x,y,⟨U,V⟩,⟨i1,i2⟩,?_,run⟩
  have Qn:Q.nsq≠0:=ng_ne h1 (by have:=p2_pos (-300);grind); refine rl_of_sq (by grind) Qn ?_; have b1:=mul_mono' d1 d1 (abs_nonneg _) (Rat.le_trans (abs_nonneg _) d1); have b2:=mul_mono' d2 d2 (abs_nonneg _) (Rat.le_trans (abs_nonneg _) d2)
  rw[abs_sq]at b1 b2
  have en:((⟨U,V⟩:Cp)-Q).nsq=(U-Q.re)*(U-Q.re)+(V-Q.im)*(V-Q.im):=rfl
  rw[en]
  have s1:(Q.re.abs+Q.im.abs)*(Q.re.abs+Q.im.abs)≤2*Q.nsq:=by
   have:=sq_nonneg (Q.re.abs-Q.im.abs)
   unfold Cp.nsq; grind
  have:=Rat.mul_le_mul_of_nonneg_left s1 (Rat.mul_nonneg (Rat.le_of_lt ep) (Rat.le_of_lt ep))
  grind
end Go.Vx
