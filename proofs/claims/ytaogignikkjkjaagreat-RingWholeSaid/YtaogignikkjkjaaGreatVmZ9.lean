/- A part of the evaluator and of what is told of floats; no conditions. -/
import Derived.Test.YtaogignikkjkjaaGreatVmKL
import Derived.Test.YtaogignikkjkjaaGreatVmZX
import Derived.Test.YtaogignikkjkjaaGreatVmP4
set_option linter.unusedSimpArgs false
set_option linter.unusedVariables false
set_option maxRecDepth 1000000
set_option linter.unusedSectionVars false
namespace Go.Vm
open Go.Proofs
theorem SumOk.weak {P:Program} {f:FuncId} {s1 s2:Sum} (h:SumOk P f s1)
  (H:∀(R:Type) (args:List Value) (k:Value→Option R) (r:R),s2 R args k=some r→∃ k',s1 R args k'=some r∧∀ v,k' v=some r→k v=some r):SumOk P f s2:=by
 intro R args k r hr
 obtain⟨k',h1,h2⟩:=H R args k r hr
 obtain⟨h3,v,h4,h5,h6⟩:=h R args k' r h1
 exact⟨h3,v,h2 v h4,h5,h6⟩
theorem ok_sNever {P:Program} {f:FuncId}:SumOk P f sNever:=fun R args k r hr=>by cases hr
theorem cxe_ok {P:Program} {l es:List (Nat×Sum)} (h:AllOk P l) (he:∀ f g,tab es f=some g→ExtOk P f g):(cxf fiReal P l es).Ok where
 fair:=fiReal_fair
 sums:=fun f g hg=>tab_ok h f g hg
 exts:=he
 meths:=fun t s f hf=>by cases hf
 nan1:=fun f hf=>by cases hf
 hs:=fun f args H v h=>by cases h
theorem sumOk_exts {P:Program} {l es:List (Nat×Sum)} (hm:P.follows .mixedOrders=true) (h:AllOk P l) (he:∀ f g,tab es f=some g→ExtOk P f g) {n:Nat} {f:FuncId} {g:Sum}
  (hg:∀(R:Type) (args:List Value) (k:Value→Option R) (r:R),g R args k=some r→inns 0 args=true∧evFn (cxf fiReal P l es) n f args k=some r):SumOk P f g:=by
 intro R args k r h1
 obtain⟨h2,h3⟩:=hg R args k r h1
 exact⟨h2,evFn_sound (cxe_ok h he) hm h3 h2⟩
section shapes
variable {P:Program} {l:List (Nat×Sum)} {n:Nat} {f:FuncId}
theorem ok_sInf {g:KFB} (hm:P.follows .mixedOrders=true) (h:AllOk P l)
  (hg:∀(R:Type) a (k:Value→Option R),evFn (cx P l) n f [.float .f64 a,.int .i64 0] k=g R a fun t=>k (.bool t)):SumOk P f (sInf g):=
 sumOk_of hm h (n:=n) fun R args k r hr=>by
  unfold sInf at hr;split at hr
  ·rename_i a s; cases hi:(s == 0) with
   |false=>rw[hi]at hr;cases hr
   |true=>
    rw[hi]at hr
    have:s=0:=by simpa using hi
    subst this
    exact⟨rfl,by rw[hg];simpa only[forceB_eq,cond_true] using hr⟩
  ·cases hr
theorem ok_sFFI {g:KFFI} (hm:P.follows .mixedOrders=true) (h:AllOk P l)
  (hg:∀(R:Type) a (k:Value→Option R),evFn (cx P l) n f [.float .f64 a] k=g R a fun x e=>k (.tuple ⟨[.float .f64 x,.int .i64 e]⟩)):SumOk P f (sFFI g):=
 sumOk_of hm h (n:=n) fun R args k r hr=>by
  unfold sFFI at hr;split at hr
  ·exact⟨rfl,by rw[hg];exact hr⟩
  ·cases hr
theorem ok_sFIF {g:KFIF} (hm:P.follows .mixedOrders=true) (h:AllOk P l)
  (hg:∀(R:Type) a e (k:Value→Option R),evFn (cx P l) n f [.float .f64 a,.int .i64 e] k=g R a e fun x=>k (.float .f64 x)):SumOk P f (sFIF g):=
 sumOk_of hm h (n:=n) fun R args k r hr=>by
  unfold sFIF at hr;split at hr
  ·exact⟨rfl,by rw[hg];exact hr⟩
  ·cases hr
theorem ok_sFFF {g:KFFF} (hm:P.follows .mixedOrders=true) (h:AllOk P l)
  (hg:∀(R:Type) a b (k:Value→Option R),evFn (cx P l) n f [.float .f64 a,.float .f64 b] k=g R a b fun x=>k (.float .f64 x)):SumOk P f (sFFF g):=
 sumOk_of hm h (n:=n) fun R args k r hr=>by
  unfold sFFF at hr;split at hr
  ·exact⟨rfl,by rw[hg];exact hr⟩
  ·cases hr
theorem ok_sCF {g:KCF} (hm:P.follows .mixedOrders=true) (h:AllOk P l)
  (hg:∀(R:Type) a b (k:Value→Option R),evFn (cx P l) n f [.complex .f64 a b] k=g R a b fun x=>k (.float .f64 x)):SumOk P f (sCF g):=
 sumOk_of hm h (n:=n) fun R args k r hr=>by
  unfold sCF at hr;split at hr
  ·exact⟨rfl,by rw[hg];exact hr⟩
  ·cases hr
theorem ok_sCCI {g:KCCI} (hm:P.follows .mixedOrders=true) (h:AllOk P l)
  (hg:∀(R:Type) a b (k:Value→Option R),evFn (cx P l) n f [.complex .f64 a b] k=g R a b fun x y e=>k (.tuple ⟨[.complex .f64 x y,.int .i64 e]⟩)):SumOk P f (sCCI g):=
 sumOk_of hm h (n:=n) fun R args k r hr=>by
  unfold sCCI at hr;split at hr
  ·exact⟨rfl,by rw[hg];exact hr⟩
  ·cases hr
theorem ok_sCCFB {g:KCCFB} (hm:P.follows .mixedOrders=true) (h:AllOk P l)
  (hg:∀(R:Type) a b c d m (k:Value→Option R),evFn (cx P l) n f [.complex .f64 a b,.complex .f64 c d,.float .f64 m] k=g R a b c d m fun t=>k (.bool t)):SumOk P f (sCCFB g):=
 sumOk_of hm h (n:=n) fun R args k r hr=>by
  unfold sCCFB at hr;split at hr
  ·exact⟨rfl,by rw[hg];simpa only[forceB_eq] using hr⟩
  ·cases hr
end shapes
theorem h112:Has Tryz.prog 73:=⟨Tryz.f73,_,Tryz.func73,by kernel_rfl,rfl⟩
theorem h114:Has Tryz.prog 75:=⟨Tryz.f75,_,Tryz.func75,by kernel_rfl,rfl⟩
theorem h275:Has Tryz.prog 125:=⟨Tryz.f125,_,Tryz.func125,by kernel_rfl,rfl⟩
theorem h260:Has Tryz.prog 117:=⟨Tryz.f117,_,Tryz.func117,by kernel_rfl,rfl⟩
theorem h229:Has Tryz.prog 94:=⟨Tryz.f94,_,Tryz.func94,by kernel_rfl,rfl⟩
theorem h200:Has Tryz.prog 111:=⟨Tryz.f111,_,Tryz.func111,by kernel_rfl,rfl⟩
theorem h77:Has Tryz.prog 126:=⟨Tryz.f126,_,Tryz.func126,by kernel_rfl,rfl⟩
theorem h247:Has Tryz.prog 119:=⟨Tryz.f119,_,Tryz.func119,by kernel_rfl,rfl⟩
theorem h201:Has Tryz.prog 95:=⟨Tryz.f95,_,Tryz.func95,by kernel_rfl,rfl⟩
theorem h117:Has Tryz.prog 79:=⟨Tryz.f79,_,Tryz.func79,by kernel_rfl,rfl⟩
theorem h115:Has Tryz.prog 77:=⟨Tryz.f77,_,Tryz.func77,by kernel_rfl,rfl⟩
theorem h116:Has Tryz.prog 78:=⟨Tryz.f78,_,Tryz.func78,by kernel_rfl,rfl⟩
theorem h119:Has Tryz.prog 81:=⟨Tryz.f81,_,Tryz.func81,by kernel_rfl,rfl⟩
theorem h118:Has Tryz.prog 80:=⟨Tryz.f80,_,Tryz.func80,by kernel_rfl,rfl⟩
theorem h38:Has Tryz.prog 29:=⟨Tryz.f29,_,Tryz.func29,by kernel_rfl,rfl⟩
theorem h141:Has Tryz.prog 93:=⟨Tryz.f93,_,Tryz.func93,by kernel_rfl,rfl⟩
theorem h93:Has Tryz.prog 91:=⟨Tryz.f91,_,Tryz.func91,by kernel_rfl,rfl⟩
theorem h179:Has Tryz.prog 89:=⟨Tryz.f89,_,Tryz.func89,by kernel_rfl,rfl⟩
theorem h113:Has Tryz.prog 74:=⟨Tryz.f74,_,Tryz.func74,by kernel_rfl,rfl⟩
theorem h55:Has Tryz.prog 76:=⟨Tryz.f76,_,Tryz.func76,by kernel_rfl,rfl⟩
theorem k112:SumOk Tryz.prog 73 (sInf isInfK):=ok_sInf zm_ok (.cons k53 h53 .nil) (z_isInf _)
theorem k114:SumOk Tryz.prog 75 (sFB isNanK):=ok_sFB zm_ok .nil z_isNan
theorem k275:SumOk Tryz.prog 125 (sFFI normK):=ok_sFFI zm_ok (.cons k53 h53 .nil) (z_norm _)
theorem k260:SumOk Tryz.prog 117 (sFFI frexpK):=ok_sFFI zm_ok (.cons k112 h112 (.cons k114 h114 (.cons k275 h275 .nil))) (z_frexp fiReal _ _ _)
theorem k229:SumOk Tryz.prog 94 (sFFI frexpK):=ok_sFFI zm_ok (.cons k260 h260 .nil) (z_Frexp _)
theorem k200:SumOk Tryz.prog 111 (sFFI frexpK):=ok_sFFI zm_ok (.cons k229 h229 .nil) (z_Parts _)
theorem k77:SumOk Tryz.prog 126 (sFFF copyK):=ok_sFFF zm_ok .nil z_copy
theorem k113:SumOk Tryz.prog 74 sNever:=ok_sNever
theorem k55:SumOk Tryz.prog 76 sNever:=ok_sNever
theorem k247:SumOk Tryz.prog 119 (sFIF ldexpK):=ok_sFIF zm_ok (.cons k112 h112 (.cons k114 h114 (.cons k275 h275 (.cons k77 h77 (.cons k113 h113 .nil))))) (z_ldexp fiReal _ _ _ _)
theorem k201:SumOk Tryz.prog 95 (sFIF ldexpK):=ok_sFIF zm_ok (.cons k247 h247 .nil) (z_Ldexp _)
theorem k117:SumOk Tryz.prog 79 (sFIF scaleK):=ok_sFIF zm_ok (.cons k201 h201 .nil) (z_scale _)
theorem k115:SumOk Tryz.prog 77 (sCF greatestK):=ok_sCF zm_ok (.cons k53 h53 .nil) (z_greatest _)
theorem k116:SumOk Tryz.prog 78 (sCCI scaledK):=ok_sCCI zm_ok (.cons k115 h115 (.cons k200 h200 (.cons k117 h117 .nil))) (z_scaled _ _ _)
theorem k119:SumOk Tryz.prog 81 (sCF squareK):=ok_sCF zm_ok .nil z_square
theorem z_sqrt (rt:KFF) (R:Type) a (k:Value→Option R):evFn (cxf fiReal Tryz.prog [] [(112,sFF rt)]) 20 80 [.float .f64 a] k=rt R a fun x=>k (.float .f64 x):=by kernel_rfl
theorem run_202 (a r:Nat) (h:Ieee.double.sqrt a=some r) (w:World):(callFunc 112 #[.float .f64 a]).run Tryz.prog w=.ok (.value (.float .f64 r)) w:=by
 have h1:Tryz.prog.funcs[112]?=some Tryz.f112:=Tryz.func112; have h2 : (Tryz.f112.name == "runtime.NumGoroutine") = false := by kernel_rfl
 have h3:Tryz.f112.body.isNone=true:=by kernel_rfl
 have h4:Extern.find Tryz.f112=some Extern.MathSqrt.sqrt:=by kernel_rfl
 have h5:(Extern.findNext Tryz.f112).isNone=true:=by kernel_rfl
 have h5':Extern.findNext Tryz.f112=none:=by simpa using h5
 have h6:Extern.MathSqrt.sqrt #[.float .f64 a]=pure (.float .f64 r):=by
  show (match Ieee.double.sqrt a with|some r=>_|none=>_)=_
  rw[h]
 unfold callFunc; have h2' : Tryz.f112.name ≠ "runtime.NumGoroutine" := by simpa using h2
 have h3':Tryz.f112.body=none:=by simpa using h3
 simp[Sem.run_bind,h1,h2',h3',h4,h5',h6]
theorem e202:ExtOk Tryz.prog 112 (sFF sqrtK):=by
 intro R args k r hr; unfold sFF at hr;split at hr
 ·rename_i a; unfold sqrtK at hr; cases hs:Ieee.double.sqrt a with
  |none=>rw[hs]at hr;cases hr
  |some x=>
   rw[bindF_eq hs]at hr
   exact⟨rfl,_,hr,rfl,fun w=>run_202 a x hs w⟩
 ·cases hr
theorem k118:SumOk Tryz.prog 80 (sFF sqrtK):=sumOk_exts (l:=[]) (es:=[(112,sFF sqrtK)]) (n:=20) zm_ok .nil
 (fun f g h=>by
  unfold tab at h; cases hb:Nat.beq 112 f with
  |true=>
   rw[hb]at h;cases h
   rw[← Nat.eq_of_beq_eq_true hb];exact e202
  |false=>rw[hb]at h;cases h)
 fun R args k r hr=>by
  unfold sFF at hr;split at hr
  ·exact⟨rfl,by rw[z_sqrt];exact hr⟩
  ·cases hr
theorem k38:SumOk Tryz.prog 29 (sCF lengthK):=
 ok_sCF zm_ok (.cons k112 h112 (.cons k114 h114 (.cons k115 h115 (.cons k116 h116 (.cons k119 h119 (.cons k118 h118 (.cons k117 h117 (.cons k113 h113 (.cons k55 h55 .nil))))))))) (z_length _ _ _ _ _ _ _)
theorem k28:SumOk Tryz.prog 17 (sCCFB nearK):=ok_sCCFB zm_ok (.cons k21 h21 (.cons k38 h38 .nil)) (z_near _ _)
theorem k141:SumOk Tryz.prog 93 (sFB finiteK):=ok_sFB zm_ok (.cons k53 h53 .nil) (z_finite _)
theorem k93:SumOk Tryz.prog 91 (sCB FiniteK):=ok_sCB zm_ok (.cons k141 h141 .nil) (z_Finite _)
theorem k179:SumOk Tryz.prog 89 (sCCC divK):=ok_sCCC zm_ok (.cons k53 h53 .nil) (z_div _)
theorem z_inf0 (ab:KFF) (R:Type) a (k:Value→Option R):evFn (cx Tryz.prog [(21,sFF ab)]) 20 73 [.float .f64 a,.int .i64 0] k=isInfB ab R a fun t=>k (.bool t):=by kernel_rfl
theorem z_infP (ab:KFF) (R:Type) a (k:Value→Option R):evFn (cx Tryz.prog [(21,sFF ab)]) 20 73 [.float .f64 a,.int .i64 1] k=isInfPK R a fun t=>k (.bool t):=by kernel_rfl
theorem z_infM (ab:KFF) (R:Type) a (k:Value→Option R):evFn (cx Tryz.prog [(21,sFF ab)]) 20 73 [.float .f64 a,.int .i64 (-1)] k=isInfMK R a fun t=>k (.bool t):=by kernel_rfl
theorem z_Inf (R:Type) (k:Value→Option R):evFn (cx Tryz.prog []) 40 74 [.int .i64 1] k=k (.float .f64 9218868437227405312):=by kernel_rfl
theorem z_scl (R:Type) a b c (k:Value→Option R):evFn (cx Tryz.prog []) 20 15 [.complex .f64 a b,.float .f64 c] k=sclK R a b c fun x y=>k (.complex .f64 x y):=by kernel_rfl
def sBk (t:Bool) (kind:Int) (L:List Int) (g:KMZ):Sum:=fun R args k=>match args with
 |[v,.complex .f64 a b,.bool u]=>oneM v fun i m=>bif u == t && i == kind then g R m a b (zErrL L k) (zOk k) else none
 |_=>none
section shapes
variable {P:Program} {l:List (Nat×Sum)} {n:Nat} {f:FuncId}
theorem ok_sInf1 {s:Int} {g:KFB} (hm:P.follows .mixedOrders=true) (h:AllOk P l)
  (hg:∀(R:Type) a (k:Value→Option R),evFn (cx P l) n f [.float .f64 a,.int .i64 s] k=g R a fun t=>k (.bool t)):
  SumOk P f (fun R args k=>match args with
   |[.float .f64 a,.int .i64 u]=>bif u == s then g R a fun t=>forceB t fun t=>k (.bool t) else none
   |_=>none):=
 sumOk_of hm h (n:=n) fun R args k r hr=>by
  split at hr
  ·rename_i a u; cases hi:(u == s) with
   |false=>rw[hi]at hr;cases hr
   |true=>
    rw[hi]at hr
    have:u=s:=by simpa using hi
    subst this
    exact⟨rfl,by rw[hg];simpa only[forceB_eq,cond_true] using hr⟩
  ·cases hr
theorem ok_sCFC {g:KCFC} (hm:P.follows .mixedOrders=true) (h:AllOk P l)
  (hg:∀(R:Type) a b c (k:Value→Option R),evFn (cx P l) n f [.complex .f64 a b,.float .f64 c] k=g R a b c fun x y=>k (.complex .f64 x y)):SumOk P f (sCFC g):=
 sumOk_of hm h (n:=n) fun R args k r hr=>by
  unfold sCFC at hr;split at hr
  ·exact⟨rfl,by rw[hg];exact hr⟩
  ·cases hr
end shapes
theorem h39:Has Tryz.prog 15:=⟨Tryz.f15,_,Tryz.func15,by kernel_rfl,rfl⟩
theorem k112':SumOk Tryz.prog 73 (sInf3 isInfK isInfPK isInfMK):=by
 intro R args k r hr; unfold sInf3 at hr; split at hr
 ·rename_i a s; cases h0:(s == 0) with
  |true=>exact ok_sInf1 zm_ok (.cons k53 h53 .nil) (z_inf0 absK) R _ k r (by rw[h0]at hr;show (bif s == 0 then _ else _)=_;rw[h0];exact hr)
  |false=>
   cases h1:(s == 1) with
   |true=>exact ok_sInf1 zm_ok (.cons k53 h53 .nil) (z_infP absK) R _ k r (by rw[h0,h1]at hr;show (bif s == 1 then _ else _)=_;rw[h1];exact hr)
   |false=>
    cases h2:(s == -1) with
    |true=>exact ok_sInf1 zm_ok (.cons k53 h53 .nil) (z_infM absK) R _ k r (by rw[h0,h1,h2]at hr;show (bif s == -1 then _ else _)=_;rw[h2];exact hr)
    |false=>rw[h0,h1,h2]at hr;cases hr
 ·cases hr
theorem k39:SumOk Tryz.prog 15 (sCFC sclK):=ok_sCFC zm_ok .nil z_scl
theorem h165:Has Tryz.prog 70:=⟨Tryz.f70,_,Tryz.func70,by kernel_rfl,rfl⟩
theorem h265:Has Tryz.prog 154:=⟨Tryz.f154,_,Tryz.func154,by kernel_rfl,rfl⟩
theorem h273:Has Tryz.prog 153:=⟨Tryz.f153,_,Tryz.func153,by kernel_rfl,rfl⟩
theorem h238:Has Tryz.prog 151:=⟨Tryz.f151,_,Tryz.func151,by kernel_rfl,rfl⟩
theorem h249:Has Tryz.prog 157:=⟨Tryz.f157,_,Tryz.func157,by kernel_rfl,rfl⟩
theorem h266:Has Tryz.prog 155:=⟨Tryz.f155,_,Tryz.func155,by kernel_rfl,rfl⟩
theorem h267:Has Tryz.prog 156:=⟨Tryz.f156,_,Tryz.func156,by kernel_rfl,rfl⟩
theorem h233:Has Tryz.prog 152:=⟨Tryz.f152,_,Tryz.func152,by kernel_rfl,rfl⟩
theorem h189:Has Tryz.prog 150:=⟨Tryz.f150,_,Tryz.func150,by kernel_rfl,rfl⟩
theorem k165:SumOk Tryz.prog 70 sPi:=sumOk_of zm_ok .nil (n:=60) fun R args k r hr=>by
 unfold sPi at hr;split at hr
 ·exact⟨rfl,by rw[z_pi];exact hr⟩
 ·cases hr
theorem z_Inf2 (R:Type) (k:Value→Option R):evFn (cx Tryz.prog []) 40 74 [.int .i64 (-1)] k=k (.float .f64 18442240474082181120):=by kernel_rfl
theorem k113'':SumOk Tryz.prog 74 sInfW2:=sumOk_of zm_ok .nil (n:=40) fun R args k r hr=>by
 unfold sInfW2 at hr;split at hr
 ·rename_i s; cases h1:(s == 1) with
  |true=>
   rw[h1]at hr
   have:s=1:=by simpa using h1
   subst this
   exact⟨rfl,by rw[z_Inf];exact hr⟩
  |false=>
   cases h2:(s == -1) with
   |true=>
    rw[h1,h2]at hr
    have:s=-1:=by simpa using h2
    subst this
    exact⟨rfl,by rw[z_Inf2];exact hr⟩
   |false=>rw[h1,h2]at hr;cases hr
 ·cases hr
theorem k265:SumOk Tryz.prog 154 (sFF coreK):=ok_sFF zm_ok (.cons k165 h165 .nil) z_core
theorem k273:SumOk Tryz.prog 153 (sFF oddK):=ok_sFF zm_ok .nil z_odd
theorem k238:SumOk Tryz.prog 151 (sFF logK):=ok_sFF zm_ok (.cons k112' h112 (.cons k55 h55 (.cons k113'' h113 (.cons k200 h200 (.cons k273 h273 .nil))))) (z_log fiReal _ _ _ _ _)
theorem k249:SumOk Tryz.prog 157 (sFB signK):=ok_sFB zm_ok .nil (z_sign fiReal)
theorem k266:SumOk Tryz.prog 155 (sFB minusK):=ok_sFB zm_ok (.cons k249 h249 .nil) (z_minus _)
theorem k267:SumOk Tryz.prog 156 (sFFF signedK):=ok_sFFF zm_ok (.cons k266 h266 (.cons k53 h53 .nil)) (z_signed _ _)
theorem k233:SumOk Tryz.prog 152 (sFFF angleK):=
 ok_sFFF zm_ok (.cons k53 h53 (.cons k112' h112 (.cons k165 h165 (.cons k265 h265 (.cons k266 h266 (.cons k267 h267 (.cons k55 h55 .nil))))))) (z_angle _ _ _ _ _ _ _)
theorem k189:SumOk Tryz.prog 150 (sCC powLogK):=ok_sCC zm_ok (.cons k38 h38 (.cons k238 h238 (.cons k233 h233 .nil))) (z_powLog _ _ _)
theorem m_speed_261 (v : Value) : calm Tryz.prog (method (Tryz.prog.types.size + Made.depth) 141 v "eddy/element.speed") = some (149, v) := by kernel_rfl
theorem m_speed_263 (v : Value) : calm Tryz.prog (method (Tryz.prog.types.size + Made.depth) 143 v "eddy/element.speed") = some (160, v) := by kernel_rfl
theorem m_speed_265 (v : Value) : calm Tryz.prog (method (Tryz.prog.types.size + Made.depth) 145 v "eddy/element.speed") = some (164, v) := by kernel_rfl
theorem m_speed_267 (v : Value) : calm Tryz.prog (method (Tryz.prog.types.size + Made.depth) 147 v "eddy/element.speed") = some (171, v) := by kernel_rfl
theorem m_speed_268 (v : Value) : calm Tryz.prog (method (Tryz.prog.types.size + Made.depth) 148 v "eddy/element.speed") = some (174, v) := by kernel_rfl
theorem m_potential_261 (v : Value) : calm Tryz.prog (method (Tryz.prog.types.size + Made.depth) 141 v "eddy/element.potential") = some (147, v) := by kernel_rfl
theorem m_potential_263 (v : Value) : calm Tryz.prog (method (Tryz.prog.types.size + Made.depth) 143 v "eddy/element.potential") = some (158, v) := by kernel_rfl
theorem m_potential_265 (v : Value) : calm Tryz.prog (method (Tryz.prog.types.size + Made.depth) 145 v "eddy/element.potential") = some (162, v) := by kernel_rfl
theorem m_potential_267 (v : Value) : calm Tryz.prog (method (Tryz.prog.types.size + Made.depth) 147 v "eddy/element.potential") = some (169, v) := by kernel_rfl
theorem m_potential_268 (v : Value) : calm Tryz.prog (method (Tryz.prog.types.size + Made.depth) 148 v "eddy/element.potential") = some (172, v) := by kernel_rfl
theorem m_slope_261 (v : Value) : calm Tryz.prog (method (Tryz.prog.types.size + Made.depth) 141 v "eddy/element.slope") = some (148, v) := by kernel_rfl
theorem m_slope_263 (v : Value) : calm Tryz.prog (method (Tryz.prog.types.size + Made.depth) 143 v "eddy/element.slope") = some (159, v) := by kernel_rfl
theorem m_slope_265 (v : Value) : calm Tryz.prog (method (Tryz.prog.types.size + Made.depth) 145 v "eddy/element.slope") = some (163, v) := by kernel_rfl
theorem m_slope_267 (v : Value) : calm Tryz.prog (method (Tryz.prog.types.size + Made.depth) 147 v "eddy/element.slope") = some (170, v) := by kernel_rfl
theorem m_slope_268 (v : Value) : calm Tryz.prog (method (Tryz.prog.types.size + Made.depth) 148 v "eddy/element.slope") = some (173, v) := by kernel_rfl
theorem pick5 {t f a1 a2 a3 a4 a5 b1 b2 b3 b4 b5:Nat} (h:(bif Nat.beq t a1 then some b1 else bif Nat.beq t a2 then some b2 else bif Nat.beq t a3 then some b3 else bif Nat.beq t a4 then some b4 else bif Nat.beq t a5 then some b5 else none)=some f):
  (t=a1∧f=b1)∨(t=a2∧f=b2)∨(t=a3∧f=b3)∨(t=a4∧f=b4)∨(t=a5∧f=b5):=by
 cases h1:Nat.beq t a1 with
 |true=>rw[h1]at h;exact .inl ⟨Nat.eq_of_beq_eq_true h1,(Option.some.inj h).symm⟩
 |false=>
  rw[h1]at h;refine .inr ?_
  cases h1:Nat.beq t a2 with
  |true=>rw[h1]at h;exact .inl ⟨Nat.eq_of_beq_eq_true h1,(Option.some.inj h).symm⟩
  |false=>
   rw[h1]at h;refine .inr ?_
   cases h1:Nat.beq t a3 with
   |true=>rw[h1]at h;exact .inl ⟨Nat.eq_of_beq_eq_true h1,(Option.some.inj h).symm⟩
   |false=>
    rw[h1]at h;refine .inr ?_
    cases h1:Nat.beq t a4 with
    |true=>rw[h1]at h;exact .inl ⟨Nat.eq_of_beq_eq_true h1,(Option.some.inj h).symm⟩
    |false=>
     rw[h1]at h;refine .inr ?_
     cases h1:Nat.beq t a5 with
     |true=>rw[h1]at h;exact⟨Nat.eq_of_beq_eq_true h1,(Option.some.inj h).symm⟩
     |false=>rw[h1]at h;cases h
theorem meth_ok:∀ t s f,methT t s=some f→∀ v w,(method (Tryz.prog.types.size+Made.depth) t v s).run Tryz.prog w=.ok (f,v) w:=by
 intro t s f h v w; unfold methT at h; cases h_speed : (s == "eddy/element.speed") with
 |true=>
  rw[h_speed]at h
  have e : s = "eddy/element.speed" := by simpa using h_speed
  subst e; rcases pick5 h with ⟨rfl,rfl⟩|⟨rfl,rfl⟩|⟨rfl,rfl⟩|⟨rfl,rfl⟩|⟨rfl,rfl⟩
  ·exact calm_run (m_speed_261 v) w
  ·exact calm_run (m_speed_263 v) w
  ·exact calm_run (m_speed_265 v) w
  ·exact calm_run (m_speed_267 v) w
  ·exact calm_run (m_speed_268 v) w
 |false=>
  rw[h_speed]at h
  simp only[cond_false]at h
  cases h_potential : (s == "eddy/element.potential") with
  |true=>
   rw[h_potential]at h
   have e : s = "eddy/element.potential" := by simpa using h_potential
   subst e; rcases pick5 h with ⟨rfl,rfl⟩|⟨rfl,rfl⟩|⟨rfl,rfl⟩|⟨rfl,rfl⟩|⟨rfl,rfl⟩
   ·exact calm_run (m_potential_261 v) w
   ·exact calm_run (m_potential_263 v) w
   ·exact calm_run (m_potential_265 v) w
   ·exact calm_run (m_potential_267 v) w
   ·exact calm_run (m_potential_268 v) w
  |false=>
   rw[h_potential]at h
   simp only[cond_false]at h
   cases h_slope : (s == "eddy/element.slope") with
   |true=>
    rw[h_slope]at h
    have e : s = "eddy/element.slope" := by simpa using h_slope
    subst e; rcases pick5 h with ⟨rfl,rfl⟩|⟨rfl,rfl⟩|⟨rfl,rfl⟩|⟨rfl,rfl⟩|⟨rfl,rfl⟩
    ·exact calm_run (m_slope_261 v) w
    ·exact calm_run (m_slope_263 v) w
    ·exact calm_run (m_slope_265 v) w
    ·exact calm_run (m_slope_267 v) w
    ·exact calm_run (m_slope_268 v) w
   |false=>
    rw[h_slope]at h
    simp only[cond_false]at h
    cases h
theorem nanW_abs {b:Nat} (h:nanW b=true):nanW (absW b)=true:=by
 unfold nanW Ieee.Format.read at h ⊢; have h1:Ieee.double.signWeight=2^63:=by decide
 have hm:absW b % 2^63=b % 2^63:=by rw[absW_eq];omega
 simp only[h1,hm]at h ⊢
 split
 ·rename_i h2
  rw[if_pos h2]at h;cases h
 ·rename_i h2
  rw[if_neg h2]at h
  split
  ·rename_i h3
   rw[if_pos h3]at h;cases h
  ·rename_i h3
   rw[if_neg h3]at h
   split
   ·rename_i h4
    rw[if_pos h4]at h;cases h
   ·rfl
theorem nan53:∀ b,nanW b=true→∀ w,Calls Tryz.prog 21 ⟨[.float .f64 b]⟩ w fun e w'=>(∃ c,nanW c=true∧e=.returned (.float .f64 c))∧RowKit.Below w.heap.size w w':=by
 intro b hb w
 obtain⟨_,v,h1,_,h2⟩:=k53 Value [.float .f64 b] some (.float .f64 (absW b)) rfl
 cases h1
 exact(h2 w).mono fun e w' ⟨he,hg⟩=>⟨⟨_,nanW_abs hb,he⟩,hg⟩
theorem cxm_ok {l:List (Nat×Sum)} (h:AllOk Tryz.prog l):(cxm Tryz.prog l).Ok where
 fair:=fiReal_fair
 sums:=fun f g hg=>tab_ok h f g hg
 exts:=fun f g hg=>exts_ok extL_ok f g hg
 meths:=meth_ok
 nan1:=fun f hf=>by
  have:f=21:=Nat.eq_of_beq_eq_true hf
  subst this
  exact⟨h53,nan53⟩
 hs:=fun f args H v h=>by cases h
theorem h243:Has Tryz.prog 109:=⟨Tryz.f109,_,Tryz.func109,by kernel_rfl,rfl⟩
theorem h244:Has Tryz.prog 110:=⟨Tryz.f110,_,Tryz.func110,by kernel_rfl,rfl⟩
theorem h245:Has Tryz.prog 114:=⟨Tryz.f114,_,Tryz.func114,by kernel_rfl,rfl⟩
theorem h199:Has Tryz.prog 84:=⟨Tryz.f84,_,Tryz.func84,by kernel_rfl,rfl⟩
theorem h217:Has Tryz.prog 28:=⟨Tryz.f28,_,Tryz.func28,by kernel_rfl,rfl⟩
theorem h221:Has Tryz.prog 90:=⟨Tryz.f90,_,Tryz.func90,by kernel_rfl,rfl⟩
theorem h258:Has Tryz.prog 108:=⟨Tryz.f108,_,Tryz.func108,by kernel_rfl,rfl⟩
theorem k243:SumOk Tryz.prog 109 (sCB placeK):=ok_sCB zm_ok (.cons k135 h135 .nil) (z_reals _)
theorem k244:SumOk Tryz.prog 110 (sCB noughtK):=ok_sCB zm_ok .nil z_nought2
theorem k245:SumOk Tryz.prog 114 sWh1:=sumOk_of zm_ok .nil (n:=60) fun R args k r hr=>by
 unfold sWh1 at hr;split at hr
 ·rename_i p; cases hp:Nat.beq p 4607182418800017408 with
  |false=>rw[hp]at hr;cases hr
  |true=>
   rw[hp]at hr
   have:=Nat.eq_of_beq_eq_true hp
   subst this
   exact⟨rfl,by rw[z_wh1];exact hr⟩
 ·cases hr
theorem k245':SumOk Tryz.prog 114 (sFB wh1):=k245.weak fun R args k r hr=>by
 refine⟨k,?_,fun v hv=>hv⟩
 unfold sFB at hr;split at hr
 ·rename_i p; unfold wh1 at hr; cases hp:Nat.beq p 4607182418800017408 with
  |false=>rw[hp]at hr;cases hr
  |true=>
   rw[hp]at hr
   show (bif Nat.beq p 4607182418800017408 then k (.bool true) else none)=some r
   rw[hp]
   exact hr
 ·cases hr
theorem k199:SumOk Tryz.prog 84 (sEI checkK):=sumOk_of zm_ok (.cons k243 h243 (.cons k80 h80 (.cons k244 h244 (.cons k245' h245 .nil)))) (n:=60) fun R args k r hr=>by
 unfold sEI at hr;split at hr
 ·rename_i kind a1 a2 s1 s2 p
  exact⟨rfl,(z_echeck placeK withinK noughtK wh1 R kind a1 a2 s1 s2 p k).trans hr⟩
 ·cases hr
theorem k221:SumOk Tryz.prog 90 (sW2 mulK):=sumOk_of zm_ok (.cons k22 h22 .nil) (n:=60) fun R args k r hr=>by
 unfold sW2 at hr;split at hr
 ·rename_i a b n; cases hn:(n == 2) with
  |false=>rw[hn]at hr;cases hr
  |true=>
   rw[hn]at hr
   have:n=2:=by simpa using hn
   subst this
   exact⟨rfl,(z_whole2 mulK R a b k).trans hr⟩
 ·cases hr
theorem k258:SumOk Tryz.prog 108 (sFF2 stepsK):=sumOk_of zm_ok .nil (n:=60) fun R args k r hr=>by
 unfold sFF2 at hr;split at hr
 ·rename_i y
  exact⟨rfl,(z_steps R y k).trans hr⟩
 ·cases hr
theorem cxe_ok' {l:List (Nat×Sum)} (h:AllOk Tryz.prog l):(cxe Tryz.prog l).Ok where
 fair:=fiReal_fair
 sums:=fun f g hg=>tab_ok h f g hg
 exts:=fun f g hg=>by cases hg
 meths:=meth_ok
 nan1:=fun f hf=>by cases hf
 hs:=fun f args H v h=>by cases h
theorem k217:SumOk Tryz.prog 28 (sSp spSK spOK spDK):=by
 intro R args k r hr; unfold sSp at hr; split at hr
 ·rename_i kind a1 a2 s1 s2 p z1 z2; cases h1:(kind == 1 && Nat.beq p 0) with
  |true=>
   rw[h1]at hr
   simp only[Bool.and_eq_true,beq_iff_eq,Nat.beq_eq]at h1
   obtain⟨rfl,rfl⟩:=h1
   exact⟨rfl,evFn_sound (cxe_ok' (.cons k199 h199 (.cons k243 h243 (.cons k244 h244 (.cons k93 h93 (.cons k21 h21 .nil)))))) zm_ok ((z_spS placeK withinK noughtK FiniteK wh1 subK R a1 a2 s1 s2 z1 z2 k).trans hr) rfl⟩
  |false=>
   rw[h1]at hr
   simp only[cond_false]at hr
   cases h2:(kind == 2 && Nat.beq p 0) with
   |true=>
    rw[h2]at hr
    simp only[Bool.and_eq_true,beq_iff_eq,Nat.beq_eq]at h2
    obtain⟨rfl,rfl⟩:=h2
    exact⟨rfl,evFn_sound (cxe_ok' (.cons k199 h199 (.cons k243 h243 (.cons k244 h244 (.cons k93 h93 (.cons k21 h21 (.cons k179 h179 (.cons k39 h39 (.cons k165 h165 .nil))))))))) zm_ok
     ((z_spO placeK withinK noughtK FiniteK wh1 subK divK sclK R a1 a2 s1 s2 z1 z2 k).trans hr) rfl⟩
   |false=>
    rw[h2]at hr
    simp only[cond_false]at hr
    cases h3:(kind == 3 && Nat.beq p 4607182418800017408) with
    |true=>
     rw[h3]at hr
     simp only[Bool.and_eq_true,beq_iff_eq,Nat.beq_eq]at h3
     obtain⟨rfl,rfl⟩:=h3
     exact⟨rfl,evFn_sound (cxe_ok' (.cons k199 h199 (.cons k243 h243 (.cons k244 h244 (.cons k245 h245 (.cons k93 h93 (.cons k21 h21 (.cons k179 h179 (.cons k39 h39 (.cons k221 h221 .nil)))))))))) zm_ok
      ((z_spD placeK withinK noughtK FiniteK subK divK mulK sclK R a1 a2 s1 s2 z1 z2 k).trans hr) rfl⟩
    |false=>rw[h3]at hr;cases hr
 ·cases hr
theorem hot_ok:AllOk Tryz.prog hot:=
 .cons k199 h199 (.cons k217 h217 (.cons k258 h258 (.cons k243 h243 (.cons k244 h244 (.cons k245 h245 (.cons k221 h221 (.cons k53 h53 (.cons k22 h22 (.cons k84 h84 (.cons k21 h21 (.cons k80 h80 (.cons k135 h135 (.cons k141 h141 (.cons k93 h93 (.cons k179 h179 (.cons k86 h86 (.cons k112' h112 (.cons k113'' h113 (.cons k114 h114 (.cons k275 h275 (.cons k260 h260 (.cons k229 h229 (.cons k200 h200 (.cons k77 h77 (.cons k247 h247 (.cons k201 h201 (.cons k117 h117 (.cons k115 h115 (.cons k116 h116 (.cons k119 h119 (.cons k118 h118 (.cons k38 h38 (.cons k39 h39 (.cons k165 h165 (.cons k265 h265 (.cons k273 h273 (.cons k238 h238 (.cons k249 h249 (.cons k266 h266 (.cons k267 h267 (.cons k233 h233 (.cons k189 h189 .nil))))))))))))))))))))))))))))))))))))))))))
structure El where
 kind:Int
 a1:Nat
 a2:Nat
 s1:Nat
 s2:Nat
 p:Nat
def El.cs (x:El):List Value:=[.int .u8 x.kind,.complex .f64 x.a1 x.a2,.complex .f64 x.s1 x.s2,.float .f64 x.p]
def ElsAt (cs:List Value) (o:Nat) (xs:List El):Prop:=∀ i x,xs[i]?=some x→∃ rest,cs.drop (o+i*4)=x.cs++rest
theorem rEl_at {cs:List Value} {o:Nat} {xs:List El} (h:ElsAt cs o xs) {i:Nat} {x:El} (hx:xs[i]?=some x) (R:Type) (k:Int→Nat→Nat→Nat→Nat→Nat→Option R):rEl R cs (o+i*4) k=k x.kind x.a1 x.a2 x.s1 x.s2 x.p:=by
 obtain⟨rest,e⟩:=h i x hx
 unfold rEl
 rw[e]
 rfl
def flowV (o n c:Nat):Value:=.agg ⟨[.slice (some ⟨0,o,none⟩) n c]⟩
noncomputable def ckLoop:Code:=loopNo (codeOf 34) 0
def ckE (o n c:Nat) (k:Int):Env:=[(13,.int .i64 k),(12,.int .i64 n),(11,.slice (some ⟨0,o,none⟩) n c)]
def ckX (o n c:Nat) (k e:Int):Env:=[(13,.int .i64 k),(12,.int .i64 n),(11,.slice (some ⟨0,o,none⟩) n c),(2,.int .i64 e)]
noncomputable def ckC (fi:Fi) (ge:GEl) (st:St) (ap:Ap) (chk:KEI):Cx:=cxM fi Tryz.prog (fun _ _=>none) [(84,sEI chk)] [] [] [] (mmOf (fun b=>Nat.blt b 1) [(39,gEl ge)] st ap)
theorem ck_round (fi:Fi) (R:Type) (ge:GEl) (st:St) (ap:Ap) (chk:KEI) (cs:List Value) (sz o n c k:Nat) (K:Ex→Env→Objs→Option R):
  evTop (ckC fi ge st ap chk) 60 noL 1 23 ckLoop (ckE o n c k) ⟨2,[(0,.cells cs sz)]⟩ (takeC [13,12,11,2] [] K) =
  bif decide ((k:Int)<n) then
   bif decide (0≤(k:Int)) && decide ((k:Int)<n) && true then
    ge R cs (o+k*4) fun kind a1 a2 s1 s2 p=>chk R kind a1 a2 s1 s2 p fun e=>
     bif e != 0 then K .ret (ckX o n c k e) [] else fi R (IntKind.i64.wrap (k+1)) fun m=>K .normal (ckE o n c m) []
   else none
  else K (.exit 0) (ckE o n c k) []:=by kernel_rfl
theorem ck_top (fi:Fi) (L:Hand) (R:Type) (ge:GEl) (st:St) (ap:Ap) (chk:KEI) (cs:List Value) (sz o n c:Nat) (K:Ex→Env→Objs→Option R):
  evTop (ckC fi ge st ap chk) 60 (slimL [13,12,11] [0] L) 1 23 (codeOf 34) (enumE 0 [flowV o n c]) ⟨1,[(0,.cells cs sz)]⟩ (takeC [2] [] K) =
  bif decide ((n:Int) > 256) then K .ret [(2,.int .i64 7)] []
  else L R 1 23 ckLoop (ckE o n c 0) ⟨2,[(0,.cells cs sz)]⟩ (leaveE 0 (thenE (fun e H=>evTop (ckC fi ge st ap chk) 60 (slimL [13,12,11] [0] L) 1 23 (seqN 3 (codeOf 34)) e H (takeC [2] [] K)) (takeC [2] [] K))):=by kernel_rfl
theorem ck_end (fi:Fi) (L:Hand) (R:Type) (ge:GEl) (st:St) (ap:Ap) (chk:KEI) (cs:List Value) (sz o n c:Nat) (k:Int) (K:Ex→Env→Objs→Option R):
  evTop (ckC fi ge st ap chk) 60 (slimL [13,12,11] [0] L) 1 23 (seqN 3 (codeOf 34)) (ckE o n c k) ⟨2,[(0,.cells cs sz)]⟩ (takeC [2] [] K)=K .ret [(2,.int .i64 0)] []:=by kernel_rfl
theorem ck_loops:loopsIn ckLoop=[]:=by kernel_rfl
theorem ck_body:Tryz.f34.body=some (codeOf 34):=by kernel_rfl
theorem lds1:LdsOk Tryz.prog [(39,gEl rEl)]:=.cons (ldEl_ok more66) .nil
theorem no_meth {P:Program}:∀ t s f,(fun(_:TypeId) (_:String)=>(none:Option FuncId)) t s=some f→∀ v w,(method (P.types.size+Made.depth) t v s).run P w=.ok (f,v) w:=fun t s f h=>by cases h
theorem no_ext {P:Program}:∀ f g,tab ([]:List (Nat×Sum)) f=some g→ExtOk P f g:=fun f g h=>by cases h
theorem wrap_up {k:Nat} (h:k<1000000):IntKind.i64.wrap ((k:Int)+1)=((k+1:Nat):Int):=by
 rw[wrapI (by omega) (by omega)];omega
def firstEr:List Int→Int
 |[]=>0
 |e::r=>if e=0 then firstEr r else e
def flowEr (er:El→Int) (xs:List El):Int:=if 256<xs.length then 7 else firstEr (xs.map er)
theorem idx_ok (k:Nat):(decide (0≤(k:Int)) && true && true)=true:=by
 rw[decide_eq_true (show (0:Int)≤(k:Int) by omega)];rfl
def timesK:KCC:=fun R a b k=>forceN (Op.negFloat .f64 b) fun x=>k x a
theorem ap55 (R:Type) (cs:List Value) (n c:Nat) (cx:List Value) (off m:Nat) (k:List Value→Option R):rAp Tryz.prog R 27 cs n c cx off m k =
  bif true && true && Nat.beq c n && Nat.blt 0 m && Nat.ble ((n+m)*48) 140737488355328 && Nat.ble (n+m) 1099511627776 && Nat.beq cs.length (n*4) && Nat.beq ((cx.drop off).take (m*4)).length (m*4) && allOne ((cx.drop off).take (m*4)) then
   k (cs++(cx.drop off).take (m*4)) else none:=by kernel_rfl
theorem ap55_ok {R:Type} {cs cx:List Value} {n off m:Nat} {k:List Value→Option R} (h1:cs.length=n*4) (h2:((cx.drop off).take (m*4)).length=m*4) (h3:allOne ((cx.drop off).take (m*4))=true) (hm:0<m) (hn:n+m<1000000):
  rAp Tryz.prog R 27 cs n n cx off m k=k (cs++(cx.drop off).take (m*4)):=by
 rw[ap55,h1,h2,h3,blt_eq_of hm,ble_eq_of (show (n+m)*48≤140737488355328 by omega),ble_eq_of (show n+m≤1099511627776 by omega),Nat.beq_refl,Nat.beq_refl,Nat.beq_refl]
 rfl
theorem inns_app {n:Nat}:∀{a b:List Value},inns n a=true→inns n b=true→inns n (a++b)=true
 |[],b,_,h=>h
 |v::r,b,ha,hb=>by
  simp only[inns,Bool.and_eq_true]at ha
  simp only[List.cons_append,inns,ha.1,inns_app ha.2 hb,Bool.and_self]
theorem allOne_app:∀{a b:List Value},allOne a=true→allOne b=true→allOne (a++b)=true
 |[],b,_,h=>h
 |v::r,b,ha,hb=>by
  simp only[allOne,Bool.and_eq_true]at ha
  simp only[List.cons_append,allOne,ha.1,allOne_app ha.2 hb,Bool.and_self]
theorem renOs_row {p:Nat→Option Nat} {b k sz:Nat} {cs:List Value} {D D2:Objs} (hk:p b=some k) (hf:inns 0 cs=true) (hD:renOs p D=some D2):renOs p ((b,.cells cs sz)::D)=some ((k,.cells cs sz)::D2):=by
 simp only[renOs,renO,hk,hD,rens_flat hf,Option.bind_some]
def Row (m:Nat) (os:List Value):Prop:=os.length=m*4∧inns 0 os=true∧allOne os=true
theorem Row.app {m j:Nat} {os ns:List Value} (h:Row m os) (g:Row j ns):Row (m+j) (os++ns):=by
 refine⟨?_,inns_app h.2.1 g.2.1,allOne_app h.2.2 g.2.2⟩
 rw[List.length_append,h.1,g.1,Nat.add_mul]
theorem El.row (x:El):Row 1 x.cs:=⟨rfl,rfl,rfl⟩
def cellsOf (xs:List El):List Value:=xs.flatMap El.cs
theorem cells_app (a b:List El):cellsOf (a++b)=cellsOf a++cellsOf b:=by unfold cellsOf;rw[List.flatMap_append]
theorem row_cells:∀(xs:List El),Row xs.length (cellsOf xs)
 |[]=>⟨rfl,rfl,rfl⟩
 |x::r=>by
  have:=(El.row x).app (row_cells r)
  rw[Nat.add_comm]at this
  exact this
theorem els_cells:∀(xs:List El) (i:Nat) (x:El),xs[i]?=some x→∃ rest,(cellsOf xs).drop (i*4)=x.cs++rest
 |[],i,x,h=>by simp at h
 |y::r,0,x,h=>by
  simp only[List.getElem?_cons_zero,Option.some.injEq]at h
  subst h
  exact⟨cellsOf r,rfl⟩
 |y::r,i+1,x,h=>by
  simp only[List.getElem?_cons_succ]at h
  obtain⟨rest,e⟩:=els_cells r i x h
  refine⟨rest,?_⟩
  show (y.cs++cellsOf r).drop ((i+1)*4)=_
  rw[show (i+1)*4=y.cs.length+i*4 by show _=4+i*4;omega,List.drop_append,List.drop_eq_nil_of_le (by omega),List.nil_append,Nat.add_sub_cancel_left]
  exact e
theorem elsAt_cells (xs:List El):ElsAt (cellsOf xs) 0 xs:=fun i x h=>by rw[Nat.zero_add];exact els_cells xs i x h
abbrev GS:=∀ R:Type,List Value→Nat→(Nat→Nat→Nat→Nat→Option R)→Option R
abbrev KAb:=∀ R:Type,Nat→Nat→Nat→Nat→Nat→Nat→Nat→Nat→Nat→Option R→Option R
structure Th where
 kind:Int
 x:Int
 y:Int
 s:Int
 t:Int
 p:Int
def Th.cs (h:Th):List Value:=[.int .u8 h.kind,.int .i16 h.x,.int .i16 h.y,.int .i16 h.s,.int .i16 h.t,.int .i8 h.p]
def ThAt (cs:List Value) (o:Nat) (xs:List Th):Prop:=∀ i h,xs[i]?=some h→∃ rest,cs.drop (o+i*6)=h.cs++rest
def fI (n:Int):Nat:=floatOfInt .f64 n
def Th.el (h:Th):El:=⟨h.kind,fI h.x,fI h.y,fI h.s,fI h.t,fI h.p⟩
def smI (x y:Int):Bool:=decide (-1000≤x) && decide (x≤1000) && decide (-1000≤y) && decide (y≤1000)
def Th.small (h:Th):Bool:=smI h.x h.y && smI h.s h.t
abbrev KG2B:=∀ R:Type,Int→Int→(Bool→Option R)→Option R
abbrev KG2C:=∀ R:Type,Int→Int→(Nat→Nat→Option R)→Option R
def sG2B (g:KG2B):Sum:=fun R args k=>match args with
 |[.agg ⟨[.int .i16 x,.int .i16 y]⟩]=>g R x y fun t=>forceB t fun t=>k (.bool t)
 |_=>none
def sG2C (g:KG2C):Sum:=fun R args k=>match args with
 |[.agg ⟨[.int .i16 x,.int .i16 y]⟩]=>g R x y fun a b=>k (.complex .f64 a b)
 |_=>none
noncomputable def ofL:Code:=loopNo (codeOf 7) 0
noncomputable def ofC (lim:Nat→Bool) (fi:Fi) (g2:GII) (gk gp:GI) (st:St) (ap:Ap) (sm:KG2B) (of:KG2C) (gl:List (Nat×HSum)):Cx:=
 cxM fi Tryz.prog (fun _ _=>none) [(6,sG2B sm),(8,sG2C of)] [] gl [] (mmOf lim [(25,gII .i16 g2),(5,gI .u8 gk),(74,gI .i8 gp)] st ap)
def ofE (n c:Nat) (k:Int):Env:=[(5,.int .i64 k),(0,.slice (some ⟨0,0,none⟩) n c),(4,.pointer (some ⟨2,0,none⟩)),(2,.pointer (some ⟨1,0,none⟩))]
def ofX (n c:Nat) (k:Int):Env:=ofE n c k++[(3,.bool false)]
def ofD (v:Value):Objs:=[(2,.cells [v] 0),(1,.cells [.slice none 0 0] 0)]
def nilS:Value:=.slice none 0 0
def sl3 (b j:Nat):Value:=.slice (some ⟨b,0,none⟩) j j
def oa0 (b:Nat):Bool:=Nat.beq b 0
def oa3 (b:Nat):Bool:=Nat.beq b 0 || Nat.beq b 3
def rdB {R:Type} (g2:GII) (gk gp:GI) (sm:KG2B) (of:KG2C) (cs:List Value) (n k:Nat) (bad:Option R) (go:Int→Nat→Nat→Nat→Nat→Nat→Option R):Option R:=
 bif decide (0≤(k:Int)) && decide ((k:Int)<n) && true then
  g2 R cs (0+k*6+1) fun x y=>sm R x y fun t=>bif t then
   bif decide (0≤(k:Int)) && decide ((k:Int)<n) && true then
    g2 R cs (0+k*6+3) fun x y=>sm R x y fun t=>bif t then
     bif decide (0≤(k:Int)) && decide ((k:Int)<n) && true then gk R cs (0+k*6+0) fun kind=>
     bif decide (0≤(k:Int)) && decide ((k:Int)<n) && true then g2 R cs (0+k*6+1) fun x y=>of R x y fun a1 a2=>
     bif decide (0≤(k:Int)) && decide ((k:Int)<n) && true then g2 R cs (0+k*6+3) fun x y=>of R x y fun s1 s2=>
     bif decide (0≤(k:Int)) && decide ((k:Int)<n) && true then gp R cs (0+k*6+5) fun p=>forceN (floatOfInt .f64 p) fun p=>go kind a1 a2 s1 s2 p
     else none else none else none else none
    else bad
   else none
  else bad
 else none
section
variable (fi:Fi) (R:Type) (g2:GII) (gk gp:GI) (st:St) (ap:Ap) (sm:KG2B) (of:KG2C) (cs os:List Value) (sz n c k j:Nat) (K:Ex→Env→Objs→Option R)
theorem of_round0:evTop (ofC oa0 fi g2 gk gp st ap sm of []) 60 noL 1 62 ofL (ofE n c k) ⟨3,ofD nilS++[(0,.cells cs sz)]⟩ (takeC [5,0,4,2,3] [2,1,4] K) =
  bif decide ((k:Int)<n) then
   rdB g2 gk gp sm of cs n k (K .ret (ofX n c k) (ofD nilS)) fun kind a1 a2 s1 s2 p=>
    fi R (IntKind.i64.wrap (k+1)) fun i=>K .normal (ofE n c i) (ofD (sl3 4 1)++[(4,.cells [.int .u8 kind,.complex .f64 a1 a2,.complex .f64 s1 s2,.float .f64 p] 4)])
  else K (.exit 0) (ofE n c k) (ofD nilS):=by kernel_rfl
theorem of_round1:evTop (ofC oa3 fi g2 gk gp st ap sm of []) 60 noL 1 62 ofL (ofE n c k) ⟨4,ofD (sl3 3 j)++[(3,.cells os 4),(0,.cells cs sz)]⟩ (takeC [5,0,4,2,3] [2,1,5] K) =
  bif decide ((k:Int)<n) then
   rdB g2 gk gp sm of cs n k (K .ret (ofX n c k) (ofD (sl3 3 j))) fun kind a1 a2 s1 s2 p=>ap R 27 os j j [.int .u8 kind,.complex .f64 a1 a2,.complex .f64 s1 s2,.float .f64 p] 0 1 fun os=>
    fi R (IntKind.i64.wrap (k+1)) fun i=>K .normal (ofE n c i) (ofD (sl3 5 (j+1))++[(5,.cells os 4)])
  else K (.exit 0) (ofE n c k) (ofD (sl3 3 j)):=by kernel_rfl
theorem of_round2:evTop (ofC oa3 fi g2 gk gp st ap sm of []) 60 noL 1 62 ofL (ofE n c k) ⟨4,ofD (sl3 3 j)++[(3,.cells os 4),(0,.cells cs sz)]⟩ (takeC [5,0,4,2,3] [2,1,3] K) =
  bif decide ((k:Int)<n) then
   rdB g2 gk gp sm of cs n k (K .ret (ofX n c k) (ofD (sl3 3 j)++[(3,.cells os 4)])) fun kind a1 a2 s1 s2 p=>ap R 27 os j j [.int .u8 kind,.complex .f64 a1 a2,.complex .f64 s1 s2,.float .f64 p] 0 1 fun os=>
    fi R (IntKind.i64.wrap (k+1)) fun i=>K .normal (ofE n c i) (ofD (sl3 5 (j+1)))
  else K (.exit 0) (ofE n c k) (ofD (sl3 3 j)++[(3,.cells os 4)]):=by kernel_rfl
end
end Go.Vm
