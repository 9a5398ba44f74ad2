/- A part of the evaluator and of what is told of floats; no conditions. -/
import Derived.Test.YtaogignikkjkjaaGreatVmP4
import Derived.Test.YtaogignikkjkjaaGreatProg
import Derived.Test.YtaogignikkjkjaaGreatVmZ9
import Derived.Test.YtaogignikkjkjaaGreatVmP26
import Derived.Test.YtaogignikkjkjaaGreatVmRA7
set_option linter.unusedSimpArgs false
set_option linter.unusedVariables false
set_option maxRecDepth 1000000
set_option linter.unusedSectionVars false
namespace Go.Vm
open Go.Proofs
def methE (t:TypeId) (s:String):Option FuncId:=
 bif s == "eddy/element.speed" then
  (bif Nat.beq t 141 then some 149 else bif Nat.beq t 143 then some 160 else bif Nat.beq t 145 then some 164 else bif Nat.beq t 147 then some 171 else bif Nat.beq t 148 then some 174 else none)
 else bif s == "eddy/element.potential" then
  (bif Nat.beq t 141 then some 147 else bif Nat.beq t 143 then some 158 else bif Nat.beq t 145 then some 162 else bif Nat.beq t 147 then some 169 else bif Nat.beq t 148 then some 172 else none)
 else bif s == "eddy/element.slope" then
  (bif Nat.beq t 141 then some 148 else bif Nat.beq t 143 then some 159 else bif Nat.beq t 145 then some 163 else bif Nat.beq t 147 then some 170 else bif Nat.beq t 148 then some 173 else none)
 else none
def cxv (P:Program) (l:List (Nat×Sum)):Cx:={ P:=P,sums:=tab l,exts:=fun _=>none,meths:=methE,wild:=fun _=>false,fi:=fiReal,nn:=false,nan1:=fun _=>false,defs:=fun _=>false,hs:=fun _ _ _=>none }
theorem y_S1 (re:KCB) (wi:KFFB) (no fin:KCB) (wh:KFB) (sub:KCCC)  (R:Type) a1 a2 s1 s2 p z1 z2 (k:Value→Option R):
 evFn (cxv Tryz.prog [(84,sEI (checkB re wi no wh)),(109,sCB re),(110,sCB no),(91,sCB fin),(35,sCCC sub)]) 60 28 [el 1 a1 a2 s1 s2 p,.complex .f64 z1 z2] k =
  valP (checkB re wi no wh) re no sub 1 p (fun x=>x) a1 a2 s1 s2 z1 z2 (vErr k) (fun d1 d2=>(toldE fin (vErr k) (zOk k)) s1 s2) (fun d1 d2=>(toldE fin (vErr k) (zOk k)) s1 s2):=by kernel_rfl
theorem y_O1 (re:KCB) (wi:KFFB) (no fin:KCB) (wh:KFB) (sub:KCCC) (div:KCCC) (scl:KCFC) (R:Type) a1 a2 s1 s2 p z1 z2 (k:Value→Option R):
 evFn (cxv Tryz.prog [(84,sEI (checkB re wi no wh)),(109,sCB re),(110,sCB no),(91,sCB fin),(35,sCCC sub),(89,sCCC div),(15,sCFC scl),(70,sPi)]) 60 28 [el 2 a1 a2 s1 s2 p,.complex .f64 z1 z2] k =
  valO (checkB re wi no wh) re no sub scl a1 a2 s1 s2 p z1 z2 (vErr k) (fun c1 c2 d1 d2=>div R c1 c2 d1 d2 (toldE fin (vErr k) (zOk k))):=by kernel_rfl
theorem y_D1_1 (re:KCB) (wi:KFFB) (no fin:KCB) (wh:KFB) (sub:KCCC) (div:KCCC) (scl:KCFC) (W:KW) (R:Type) a1 a2 s1 s2 z1 z2 (k:Value→Option R):
 evFn (cxv Tryz.prog [(84,sEI (checkB re wi no wh)),(109,sCB re),(110,sCB no),(91,sCB fin),(35,sCCC sub),(89,sCCC div),(15,sCFC scl),(90,sKW W)]) 60 28 [el 3 a1 a2 s1 s2 4607182418800017408,.complex .f64 z1 z2] k =
  valP (checkB re wi no wh) re no sub 3 4607182418800017408 (fun x=>x) a1 a2 s1 s2 z1 z2 (vErr k) (fun _ _=>vErr k 6) (fun d1 d2=>leafD div scl W (some 13830554455654793216) 2 s1 s2 d1 d2 (toldE fin (vErr k) (zOk k))):=by kernel_rfl
theorem y_D1_2 (re:KCB) (wi:KFFB) (no fin:KCB) (wh:KFB) (sub:KCCC) (div:KCCC) (scl:KCFC) (W:KW) (R:Type) a1 a2 s1 s2 z1 z2 (k:Value→Option R):
 evFn (cxv Tryz.prog [(84,sEI (checkB re wi no wh)),(109,sCB re),(110,sCB no),(91,sCB fin),(35,sCCC sub),(89,sCCC div),(15,sCFC scl),(90,sKW W)]) 60 28 [el 3 a1 a2 s1 s2 4611686018427387904,.complex .f64 z1 z2] k =
  valP (checkB re wi no wh) re no sub 3 4611686018427387904 (fun x=>x) a1 a2 s1 s2 z1 z2 (vErr k) (fun _ _=>vErr k 6) (fun d1 d2=>leafD div scl W (some 13835058055282163712) 3 s1 s2 d1 d2 (toldE fin (vErr k) (zOk k))):=by kernel_rfl
theorem y_D1_3 (re:KCB) (wi:KFFB) (no fin:KCB) (wh:KFB) (sub:KCCC) (div:KCCC) (scl:KCFC) (W:KW) (R:Type) a1 a2 s1 s2 z1 z2 (k:Value→Option R):
 evFn (cxv Tryz.prog [(84,sEI (checkB re wi no wh)),(109,sCB re),(110,sCB no),(91,sCB fin),(35,sCCC sub),(89,sCCC div),(15,sCFC scl),(90,sKW W)]) 60 28 [el 3 a1 a2 s1 s2 4613937818241073152,.complex .f64 z1 z2] k =
  valP (checkB re wi no wh) re no sub 3 4613937818241073152 (fun x=>x) a1 a2 s1 s2 z1 z2 (vErr k) (fun _ _=>vErr k 6) (fun d1 d2=>leafD div scl W (some 13837309855095848960) 4 s1 s2 d1 d2 (toldE fin (vErr k) (zOk k))):=by kernel_rfl
theorem y_D1_4 (re:KCB) (wi:KFFB) (no fin:KCB) (wh:KFB) (sub:KCCC) (div:KCCC) (scl:KCFC) (W:KW) (R:Type) a1 a2 s1 s2 z1 z2 (k:Value→Option R):
 evFn (cxv Tryz.prog [(84,sEI (checkB re wi no wh)),(109,sCB re),(110,sCB no),(91,sCB fin),(35,sCCC sub),(89,sCCC div),(15,sCFC scl),(90,sKW W)]) 60 28 [el 3 a1 a2 s1 s2 4616189618054758400,.complex .f64 z1 z2] k =
  valP (checkB re wi no wh) re no sub 3 4616189618054758400 (fun x=>x) a1 a2 s1 s2 z1 z2 (vErr k) (fun _ _=>vErr k 6) (fun d1 d2=>leafD div scl W (some 13839561654909534208) 5 s1 s2 d1 d2 (toldE fin (vErr k) (zOk k))):=by kernel_rfl
theorem y_D1_5 (re:KCB) (wi:KFFB) (no fin:KCB) (wh:KFB) (sub:KCCC) (div:KCCC) (scl:KCFC) (W:KW) (R:Type) a1 a2 s1 s2 z1 z2 (k:Value→Option R):
 evFn (cxv Tryz.prog [(84,sEI (checkB re wi no wh)),(109,sCB re),(110,sCB no),(91,sCB fin),(35,sCCC sub),(89,sCCC div),(15,sCFC scl),(90,sKW W)]) 60 28 [el 3 a1 a2 s1 s2 4617315517961601024,.complex .f64 z1 z2] k =
  valP (checkB re wi no wh) re no sub 3 4617315517961601024 (fun x=>x) a1 a2 s1 s2 z1 z2 (vErr k) (fun _ _=>vErr k 6) (fun d1 d2=>leafD div scl W (some 13840687554816376832) 6 s1 s2 d1 d2 (toldE fin (vErr k) (zOk k))):=by kernel_rfl
theorem y_D1_6 (re:KCB) (wi:KFFB) (no fin:KCB) (wh:KFB) (sub:KCCC) (div:KCCC) (scl:KCFC) (W:KW) (R:Type) a1 a2 s1 s2 z1 z2 (k:Value→Option R):
 evFn (cxv Tryz.prog [(84,sEI (checkB re wi no wh)),(109,sCB re),(110,sCB no),(91,sCB fin),(35,sCCC sub),(89,sCCC div),(15,sCFC scl),(90,sKW W)]) 60 28 [el 3 a1 a2 s1 s2 4618441417868443648,.complex .f64 z1 z2] k =
  valP (checkB re wi no wh) re no sub 3 4618441417868443648 (fun x=>x) a1 a2 s1 s2 z1 z2 (vErr k) (fun _ _=>vErr k 6) (fun d1 d2=>leafD div scl W (some 13841813454723219456) 7 s1 s2 d1 d2 (toldE fin (vErr k) (zOk k))):=by kernel_rfl
theorem y_D1_7 (re:KCB) (wi:KFFB) (no fin:KCB) (wh:KFB) (sub:KCCC) (div:KCCC) (scl:KCFC) (W:KW) (R:Type) a1 a2 s1 s2 z1 z2 (k:Value→Option R):
 evFn (cxv Tryz.prog [(84,sEI (checkB re wi no wh)),(109,sCB re),(110,sCB no),(91,sCB fin),(35,sCCC sub),(89,sCCC div),(15,sCFC scl),(90,sKW W)]) 60 28 [el 3 a1 a2 s1 s2 4619567317775286272,.complex .f64 z1 z2] k =
  valP (checkB re wi no wh) re no sub 3 4619567317775286272 (fun x=>x) a1 a2 s1 s2 z1 z2 (vErr k) (fun _ _=>vErr k 6) (fun d1 d2=>leafD div scl W (some 13842939354630062080) 8 s1 s2 d1 d2 (toldE fin (vErr k) (zOk k))):=by kernel_rfl
theorem y_D1_8 (re:KCB) (wi:KFFB) (no fin:KCB) (wh:KFB) (sub:KCCC) (div:KCCC) (scl:KCFC) (W:KW) (R:Type) a1 a2 s1 s2 z1 z2 (k:Value→Option R):
 evFn (cxv Tryz.prog [(84,sEI (checkB re wi no wh)),(109,sCB re),(110,sCB no),(91,sCB fin),(35,sCCC sub),(89,sCCC div),(15,sCFC scl),(90,sKW W)]) 60 28 [el 3 a1 a2 s1 s2 4620693217682128896,.complex .f64 z1 z2] k =
  valP (checkB re wi no wh) re no sub 3 4620693217682128896 (fun x=>x) a1 a2 s1 s2 z1 z2 (vErr k) (fun _ _=>vErr k 6) (fun d1 d2=>leafD div scl W (some 13844065254536904704) 9 s1 s2 d1 d2 (toldE fin (vErr k) (zOk k))):=by kernel_rfl
theorem y_C1_1 (re:KCB) (wi:KFFB) (no fin:KCB) (wh:KFB) (sub:KCCC) (mul:KCCC) (scl:KCFC) (W:KW) (wy:∀ R:Type,Nat→Option R→Option R) (R:Type) a1 a2 s1 s2 z1 z2 (k:Value→Option R):
 evFn (cxv Tryz.prog [(84,sEI (checkB re wi no wh)),(109,sCB re),(110,sCB no),(91,sCB fin),(35,sCCC sub),(43,sCCC mul),(15,sCFC scl),(90,sKW W),(114,sWhY wy)]) 60 28 [el 4 a1 a2 s1 s2 4607182418800017408,.complex .f64 z1 z2] k =
  valP (checkB re wi no wh) re no sub 4 4607182418800017408 (wy R 4607182418800017408) a1 a2 s1 s2 z1 z2 (vErr k) (fun d1 d2=>leafC mul scl W (some 4607182418800017408) 0 s1 s2 d1 d2 (toldE fin (vErr k) (zOk k))) (fun d1 d2=>leafC mul scl W (some 4607182418800017408) 0 s1 s2 d1 d2 (toldE fin (vErr k) (zOk k))):=by kernel_rfl
theorem y_C1_2 (re:KCB) (wi:KFFB) (no fin:KCB) (wh:KFB) (sub:KCCC) (mul:KCCC) (scl:KCFC) (W:KW) (wy:∀ R:Type,Nat→Option R→Option R) (R:Type) a1 a2 s1 s2 z1 z2 (k:Value→Option R):
 evFn (cxv Tryz.prog [(84,sEI (checkB re wi no wh)),(109,sCB re),(110,sCB no),(91,sCB fin),(35,sCCC sub),(43,sCCC mul),(15,sCFC scl),(90,sKW W),(114,sWhY wy)]) 60 28 [el 4 a1 a2 s1 s2 4611686018427387904,.complex .f64 z1 z2] k =
  valP (checkB re wi no wh) re no sub 4 4611686018427387904 (wy R 4611686018427387904) a1 a2 s1 s2 z1 z2 (vErr k) (fun d1 d2=>leafC mul scl W (some 4611686018427387904) 1 s1 s2 d1 d2 (toldE fin (vErr k) (zOk k))) (fun d1 d2=>leafC mul scl W (some 4611686018427387904) 1 s1 s2 d1 d2 (toldE fin (vErr k) (zOk k))):=by kernel_rfl
theorem y_C1_3 (re:KCB) (wi:KFFB) (no fin:KCB) (wh:KFB) (sub:KCCC) (mul:KCCC) (scl:KCFC) (W:KW) (wy:∀ R:Type,Nat→Option R→Option R) (R:Type) a1 a2 s1 s2 z1 z2 (k:Value→Option R):
 evFn (cxv Tryz.prog [(84,sEI (checkB re wi no wh)),(109,sCB re),(110,sCB no),(91,sCB fin),(35,sCCC sub),(43,sCCC mul),(15,sCFC scl),(90,sKW W),(114,sWhY wy)]) 60 28 [el 4 a1 a2 s1 s2 4613937818241073152,.complex .f64 z1 z2] k =
  valP (checkB re wi no wh) re no sub 4 4613937818241073152 (wy R 4613937818241073152) a1 a2 s1 s2 z1 z2 (vErr k) (fun d1 d2=>leafC mul scl W (some 4613937818241073152) 2 s1 s2 d1 d2 (toldE fin (vErr k) (zOk k))) (fun d1 d2=>leafC mul scl W (some 4613937818241073152) 2 s1 s2 d1 d2 (toldE fin (vErr k) (zOk k))):=by kernel_rfl
theorem y_C1_4 (re:KCB) (wi:KFFB) (no fin:KCB) (wh:KFB) (sub:KCCC) (mul:KCCC) (scl:KCFC) (W:KW) (wy:∀ R:Type,Nat→Option R→Option R) (R:Type) a1 a2 s1 s2 z1 z2 (k:Value→Option R):
 evFn (cxv Tryz.prog [(84,sEI (checkB re wi no wh)),(109,sCB re),(110,sCB no),(91,sCB fin),(35,sCCC sub),(43,sCCC mul),(15,sCFC scl),(90,sKW W),(114,sWhY wy)]) 60 28 [el 4 a1 a2 s1 s2 4616189618054758400,.complex .f64 z1 z2] k =
  valP (checkB re wi no wh) re no sub 4 4616189618054758400 (wy R 4616189618054758400) a1 a2 s1 s2 z1 z2 (vErr k) (fun d1 d2=>leafC mul scl W (some 4616189618054758400) 3 s1 s2 d1 d2 (toldE fin (vErr k) (zOk k))) (fun d1 d2=>leafC mul scl W (some 4616189618054758400) 3 s1 s2 d1 d2 (toldE fin (vErr k) (zOk k))):=by kernel_rfl
theorem y_B1 (re:KCB) (wi:KFFB) (no fin:KCB) (wh:KFB) (sub:KCCC) (mul:KCCC) (scl real:KCFC) (wn:∀ R:Type,Nat→Option R→Option R) (R:Type) a1 a2 s1 s2 p z1 z2 (k:Value→Option R):
 evFn (cxv Tryz.prog [(84,sEI (checkB re wi no wh)),(109,sCB re),(110,sCB no),(91,sCB fin),(35,sCCC sub),(43,sCCC mul),(15,sCFC scl),(165,sCFC real),(114,sWhN wn)]) 60 28 [el 4 a1 a2 s1 s2 p,.complex .f64 z1 z2] k =
  valP (checkB re wi no wh) re no sub 4 p (wn R p) a1 a2 s1 s2 z1 z2 (vErr k) (fun _ _=>midB 4607182418800017408 p (vErr k)) (fun d1 d2=>leafB1 mul scl real p s1 s2 d1 d2 (toldE fin (vErr k) (zOk k))):=by kernel_rfl
theorem y_whole (tr:KFF) (R:Type) p (k:Value→Option R):evFn (cxf fiReal Tryz.prog [] [(128,sFF tr)]) 60 114 [.float .f64 p] k=wholeB tr R p fun t=>k (.bool t):=by kernel_rfl
theorem y_fit (wi:KFFB) (R:Type) x (k:Value→Option R):evFn (cx Tryz.prog [(113,sFFB wi)]) 60 121 [.float .f64 x] k=wi R x 4697254411347427328 (fun t=>forceB t fun t=>k (.bool t)):=by kernel_rfl
theorem y_fwhole (tr:KFF) (R:Type) p (k:Value→Option R):evFn (cxf fiReal Tryz.prog [] [(127,sFF tr)]) 60 122 [.float .f64 p] k=tr R p fun y=>k (.float .f64 y):=by kernel_rfl
theorem y_from (R:Type) n (k:Value→Option R):evFn (cxf fiReal Tryz.prog [] [(57,xFrom)]) 60 106 [.int .u64 n] k=forceN n.toNat fun x=>k (.float .f64 x):=by kernel_rfl
theorem y_w0 (mul:KCCC) (R:Type) a b (k:Value→Option R):evFn (cx Tryz.prog [(43,sCCC mul)]) 60 90 [.complex .f64 a b,.int .i64 0] k=k (.complex .f64 4607182418800017408 0):=by kernel_rfl
theorem y_w2 (mul:KCCC) (R:Type) a b (k:Value→Option R):evFn (cx Tryz.prog [(43,sCCC mul)]) 60 90 [.complex .f64 a b,.int .i64 2] k=wsteps mul a b (wbits 2) a b fun x y=>k (.complex .f64 x y):=by kernel_rfl
theorem y_w3 (mul:KCCC) (R:Type) a b (k:Value→Option R):evFn (cx Tryz.prog [(43,sCCC mul)]) 60 90 [.complex .f64 a b,.int .i64 3] k=wsteps mul a b (wbits 3) a b fun x y=>k (.complex .f64 x y):=by kernel_rfl
theorem y_w4 (mul:KCCC) (R:Type) a b (k:Value→Option R):evFn (cx Tryz.prog [(43,sCCC mul)]) 60 90 [.complex .f64 a b,.int .i64 4] k=wsteps mul a b (wbits 4) a b fun x y=>k (.complex .f64 x y):=by kernel_rfl
theorem y_w6 (mul:KCCC) (R:Type) a b (k:Value→Option R):evFn (cx Tryz.prog [(43,sCCC mul)]) 60 90 [.complex .f64 a b,.int .i64 6] k=wsteps mul a b (wbits 6) a b fun x y=>k (.complex .f64 x y):=by kernel_rfl
theorem y_w7 (mul:KCCC) (R:Type) a b (k:Value→Option R):evFn (cx Tryz.prog [(43,sCCC mul)]) 60 90 [.complex .f64 a b,.int .i64 7] k=wsteps mul a b (wbits 7) a b fun x y=>k (.complex .f64 x y):=by kernel_rfl
theorem y_w8 (mul:KCCC) (R:Type) a b (k:Value→Option R):evFn (cx Tryz.prog [(43,sCCC mul)]) 60 90 [.complex .f64 a b,.int .i64 8] k=wsteps mul a b (wbits 8) a b fun x y=>k (.complex .f64 x y):=by kernel_rfl
theorem y_w9 (mul:KCCC) (R:Type) a b (k:Value→Option R):evFn (cx Tryz.prog [(43,sCCC mul)]) 60 90 [.complex .f64 a b,.int .i64 9] k=wsteps mul a b (wbits 9) a b fun x y=>k (.complex .f64 x y):=by kernel_rfl
theorem h_whole:Has Tryz.prog 114:=⟨Tryz.f114,_,Tryz.func114,by kernel_rfl,rfl⟩
theorem eTrunc:ExtOk Tryz.prog 128 (sFF (roundK .zero)):=fun R args k r hr=>e280 R args k r (by
 unfold sFF at hr;split at hr
 ·exact hr
 ·cases hr)
theorem eEven:ExtOk Tryz.prog 127 (sFF (roundK .even)):=fun R args k r hr=>e279 R args k r (by
 unfold sFF at hr;split at hr
 ·exact hr
 ·cases hr)
theorem k_whole:SumOk Tryz.prog 114 (sFB wholeK):=sumOk_exts (l:=[]) (es:=[(128,sFF (roundK .zero))]) (n:=60) zm_ok .nil (exts_ok (.cons eTrunc .nil)) fun R args k r hr=>by
 unfold sFB at hr;split at hr
 ·simp only[forceB_eq]at hr
  exact⟨rfl,by rw[y_whole];exact hr⟩
 ·cases hr
theorem h_fit:Has Tryz.prog 121:=⟨Tryz.f121,_,Tryz.func121,by kernel_rfl,rfl⟩
theorem h_fwhole:Has Tryz.prog 122:=⟨Tryz.f122,_,Tryz.func122,by kernel_rfl,rfl⟩
theorem h_from:Has Tryz.prog 106:=⟨Tryz.f106,_,Tryz.func106,by kernel_rfl,rfl⟩
theorem h_steps:Has Tryz.prog 108:=⟨Tryz.f108,_,Tryz.func108,by kernel_rfl,rfl⟩
theorem h_less:Has Tryz.prog 123:=⟨Tryz.f123,_,Tryz.func123,by kernel_rfl,rfl⟩
theorem h_quarter:Has Tryz.prog 107:=⟨Tryz.f107,_,Tryz.func107,by kernel_rfl,rfl⟩
theorem h_turn:Has Tryz.prog 71:=⟨Tryz.f71,_,Tryz.func71,by kernel_rfl,rfl⟩
theorem h_rising:Has Tryz.prog 168:=⟨Tryz.f168,_,Tryz.func168,by kernel_rfl,rfl⟩
theorem h_exp:Has Tryz.prog 167:=⟨Tryz.f167,_,Tryz.func167,by kernel_rfl,rfl⟩
theorem h_cexp:Has Tryz.prog 166:=⟨Tryz.f166,_,Tryz.func166,by kernel_rfl,rfl⟩
theorem h_real:Has Tryz.prog 165:=⟨Tryz.f165,_,Tryz.func165,by kernel_rfl,rfl⟩
theorem h_pow:Has Tryz.prog 90:=⟨Tryz.f90,_,Tryz.func90,by kernel_rfl,rfl⟩
theorem h_check:Has Tryz.prog 84:=⟨Tryz.f84,_,Tryz.func84,by kernel_rfl,rfl⟩
theorem k_fit:SumOk Tryz.prog 121 (sFB fitK):=sumOk_of zm_ok (.cons k80 h80 .nil) (n:=60) fun R args k r hr=>by
 unfold sFB at hr;split at hr
 ·exact⟨rfl,(y_fit withinK R _ k).trans (by unfold fitK at hr;simpa only[forceB_eq] using hr)⟩
 ·cases hr
theorem k_fwhole:SumOk Tryz.prog 122 (sFF (roundK .even)):=sumOk_exts (l:=[]) (es:=[(127,sFF (roundK .even))]) (n:=60) zm_ok .nil (exts_ok (.cons eEven .nil)) fun R args k r hr=>by
 unfold sFF at hr;split at hr
 ·exact⟨rfl,(y_fwhole _ R _ k).trans hr⟩
 ·cases hr
theorem k_from:SumOk Tryz.prog 106 xFrom:=sumOk_exts (l:=[]) (es:=[(57,xFrom)]) (n:=60) zm_ok .nil (exts_ok (.cons e144 .nil)) fun R args k r hr=>by
 unfold xFrom at hr;split at hr
 ·exact⟨rfl,(y_from R _ k).trans hr⟩
 ·cases hr
theorem k_steps:SumOk Tryz.prog 108 (sFF2 stepsK):=sumOk_of zm_ok .nil (n:=60) fun R args k r hr=>by
 unfold sFF2 at hr;split at hr
 ·exact⟨rfl,(y_steps R _ k).trans hr⟩
 ·cases hr
theorem k_less:SumOk Tryz.prog 123 (sLess lessK):=sumOk_of zm_ok (.cons k_from h_from .nil) (n:=60) fun R args k r hr=>by
 unfold sLess at hr;split at hr
 ·rename_i x m t; cases ht:Nat.beq t 4607182418800017408 with
  |false=>rw[ht]at hr;cases hr
  |true=>
   rw[ht]at hr
   have:=Nat.eq_of_beq_eq_true ht
   subst this
   exact⟨rfl,(y_less R _ _ k).trans hr⟩
 ·cases hr
theorem k_quarter:SumOk Tryz.prog 107 (sFFI quarterK):=ok_sFFI zm_ok (.cons k_fit h_fit (.cons k_fwhole h_fwhole (.cons k_less h_less (.cons k55 h55 (.cons k_from h_from .nil))))) (y_quarter fiReal fitK (roundK .even) lessK)
theorem k_turn:SumOk Tryz.prog 71 (sFF2 turnK):=sumOk_of zm_ok (.cons k_quarter h_quarter (.cons k_steps h_steps .nil)) (n:=60) fun R args k r hr=>by
 unfold sFF2 at hr;split at hr
 ·exact⟨rfl,(y_turn quarterK stepsK R _ k).trans hr⟩
 ·cases hr
theorem k_rising:SumOk Tryz.prog 168 (sRising risingK):=sumOk_of zm_ok .nil (n:=60) fun R args k r hr=>by
 unfold sRising at hr;split at hr
 ·rename_i r0 j; cases hj:(j == 1) with
  |false=>rw[hj]at hr;cases hr
  |true=>
   rw[hj]at hr
   have:j=1:=by simpa using hj
   subst this
   exact⟨rfl,(y_rising R _ k).trans hr⟩
 ·cases hr
theorem k_exp:SumOk Tryz.prog 167 (sFF expK):=ok_sFF zm_ok (.cons k_fwhole h_fwhole (.cons k_rising h_rising (.cons k117 h117 (.cons k113'' h113 .nil)))) (y_exp fiReal (roundK .even) risingK scaleK)
theorem k_cexp:SumOk Tryz.prog 166 (sCC cexpK):=ok_sCC zm_ok (.cons k_exp h_exp (.cons k_turn h_turn .nil)) (y_cexp expK turnK)
theorem k_real:SumOk Tryz.prog 165 (sCFC realK):=ok_sCFC zm_ok (.cons k189 h189 (.cons k39 h39 (.cons k_cexp h_cexp .nil))) (y_real powLogK sclK cexpK)
theorem k_check:SumOk Tryz.prog 84 (sEI checkE):=sumOk_of zm_ok (.cons k243 h243 (.cons k80 h80 (.cons k244 h244 (.cons k_whole h_whole .nil)))) (n:=60) fun R args k r hr=>by
 unfold sEI at hr;split at hr
 ·exact⟨rfl,(z_echeck placeK withinK noughtK wholeK R _ _ _ _ _ _ k).trans hr⟩
 ·cases hr
theorem k_whY:SumOk Tryz.prog 114 (sWhY wyK):=k_whole.weak fun R args k r hr=>by
 refine⟨fun v=>match v with | .bool true=>k v|_=>none,?_,fun v hv=>?_⟩
 ·unfold sWhY at hr;split at hr
  ·unfold sFB; simp only; unfold wyK at hr
   rw[← hr]
   first
    |done
    |(congr 1;funext t;rw[forceB_eq];cases t<;>rfl)
    |(congr 1)
  ·cases hr
 ·simp only at hv; split at hv
  ·exact hv
  ·cases hv
theorem k_whN:SumOk Tryz.prog 114 (sWhN wnK):=k_whole.weak fun R args k r hr=>by
 refine⟨fun v=>match v with | .bool false=>k v|_=>none,?_,fun v hv=>?_⟩
 ·unfold sWhN at hr;split at hr
  ·unfold sFB; simp only; unfold wnK at hr
   rw[← hr]
   first
    |done
    |(congr 1;funext t;rw[forceB_eq];cases t<;>rfl)
    |(congr 1)
  ·cases hr
 ·simp only at hv; split at hv
  ·exact hv
  ·cases hv
theorem k_check2:SumOk Tryz.prog 84 (sEI (checkB placeK withinK noughtK wholeK)):=k_check
theorem k_pow:SumOk Tryz.prog 90 (sKW wpowK):=sumOk_of zm_ok (.cons k22 h22 .nil) (n:=60) fun R args k r hr=>by
 unfold sKW at hr;split at hr
 ·rename_i a b n; unfold wpowK at hr; cases h0:(n == 0) with
  |true=>
   have e:n=0:=by simpa using h0
   subst e
   exact⟨rfl,(y_w0 mulK R a b k).trans hr⟩
  |false=>
   rw[h0]at hr
   simp only[cond_false]at hr
   cases h1:(n == 1) with
   |true=>
    have e:n=1:=by simpa using h1
    subst e
    exact⟨rfl,(y_w1 mulK R a b k).trans hr⟩
   |false=>
    rw[h1]at hr
    simp only[cond_false]at hr
    cases h2:(n == 2) with
    |true=>
     have e:n=2:=by simpa using h2
     subst e
     exact⟨rfl,(y_w2 mulK R a b k).trans hr⟩
    |false=>
     rw[h2]at hr
     simp only[cond_false]at hr
     cases h3:(n == 3) with
     |true=>
      have e:n=3:=by simpa using h3
      subst e
      exact⟨rfl,(y_w3 mulK R a b k).trans hr⟩
     |false=>
      rw[h3]at hr
      simp only[cond_false]at hr
      cases h4:(n == 4) with
      |true=>
       have e:n=4:=by simpa using h4
       subst e
       exact⟨rfl,(y_w4 mulK R a b k).trans hr⟩
      |false=>
       rw[h4]at hr
       simp only[cond_false]at hr
       cases h5:(n == 5) with
       |true=>
        have e:n=5:=by simpa using h5
        subst e
        exact⟨rfl,(y_w5 mulK R a b k).trans hr⟩
       |false=>
        rw[h5]at hr
        simp only[cond_false]at hr
        cases h6:(n == 6) with
        |true=>
         have e:n=6:=by simpa using h6
         subst e
         exact⟨rfl,(y_w6 mulK R a b k).trans hr⟩
        |false=>
         rw[h6]at hr
         simp only[cond_false]at hr
         cases h7:(n == 7) with
         |true=>
          have e:n=7:=by simpa using h7
          subst e
          exact⟨rfl,(y_w7 mulK R a b k).trans hr⟩
         |false=>
          rw[h7]at hr
          simp only[cond_false]at hr
          cases h8:(n == 8) with
          |true=>
           have e:n=8:=by simpa using h8
           subst e
           exact⟨rfl,(y_w8 mulK R a b k).trans hr⟩
          |false=>
           rw[h8]at hr
           simp only[cond_false]at hr
           cases h9:(n == 9) with
           |true=>
            have e:n=9:=by simpa using h9
            subst e
            exact⟨rfl,(y_w9 mulK R a b k).trans hr⟩
           |false=>
            rw[h9]at hr
            simp only[cond_false]at hr
            cases h10:(n == 10) with
            |true=>
             have e:n=10:=by simpa using h10
             subst e
             exact⟨rfl,(y_w10 mulK R a b k).trans hr⟩
            |false=>
             rw[h10]at hr
             simp only[cond_false]at hr
             cases hr
 ·cases hr
theorem m_speed_59 (v : Value) : calm Tryz.prog (method (Tryz.prog.types.size + Made.depth) 141 v "eddy/element.speed") = some (149, v) := by kernel_rfl
theorem m_speed_61 (v : Value) : calm Tryz.prog (method (Tryz.prog.types.size + Made.depth) 143 v "eddy/element.speed") = some (160, v) := by kernel_rfl
theorem m_speed_63 (v : Value) : calm Tryz.prog (method (Tryz.prog.types.size + Made.depth) 145 v "eddy/element.speed") = some (164, v) := by kernel_rfl
theorem m_speed_65 (v : Value) : calm Tryz.prog (method (Tryz.prog.types.size + Made.depth) 147 v "eddy/element.speed") = some (171, v) := by kernel_rfl
theorem m_speed_69 (v : Value) : calm Tryz.prog (method (Tryz.prog.types.size + Made.depth) 148 v "eddy/element.speed") = some (174, v) := by kernel_rfl
theorem m_potential_59 (v : Value) : calm Tryz.prog (method (Tryz.prog.types.size + Made.depth) 141 v "eddy/element.potential") = some (147, v) := by kernel_rfl
theorem m_potential_61 (v : Value) : calm Tryz.prog (method (Tryz.prog.types.size + Made.depth) 143 v "eddy/element.potential") = some (158, v) := by kernel_rfl
theorem m_potential_63 (v : Value) : calm Tryz.prog (method (Tryz.prog.types.size + Made.depth) 145 v "eddy/element.potential") = some (162, v) := by kernel_rfl
theorem m_potential_65 (v : Value) : calm Tryz.prog (method (Tryz.prog.types.size + Made.depth) 147 v "eddy/element.potential") = some (169, v) := by kernel_rfl
theorem m_potential_69 (v : Value) : calm Tryz.prog (method (Tryz.prog.types.size + Made.depth) 148 v "eddy/element.potential") = some (172, v) := by kernel_rfl
theorem m_slope_59 (v : Value) : calm Tryz.prog (method (Tryz.prog.types.size + Made.depth) 141 v "eddy/element.slope") = some (148, v) := by kernel_rfl
theorem m_slope_61 (v : Value) : calm Tryz.prog (method (Tryz.prog.types.size + Made.depth) 143 v "eddy/element.slope") = some (159, v) := by kernel_rfl
theorem m_slope_63 (v : Value) : calm Tryz.prog (method (Tryz.prog.types.size + Made.depth) 145 v "eddy/element.slope") = some (163, v) := by kernel_rfl
theorem m_slope_65 (v : Value) : calm Tryz.prog (method (Tryz.prog.types.size + Made.depth) 147 v "eddy/element.slope") = some (170, v) := by kernel_rfl
theorem m_slope_69 (v : Value) : calm Tryz.prog (method (Tryz.prog.types.size + Made.depth) 148 v "eddy/element.slope") = some (173, v) := by kernel_rfl
theorem pick5y {t f a1 a2 a3 a4 a5 b1 b2 b3 b4 b5:Nat} (h:(bif Nat.beq t a1 then some b1 else bif Nat.beq t a2 then some b2 else bif Nat.beq t a3 then some b3 else bif Nat.beq t a4 then some b4 else bif Nat.beq t a5 then some b5 else none)=some f):
  (t=a1∧f=b1)∨(t=a2∧f=b2)∨(t=a3∧f=b3)∨(t=a4∧f=b4)∨(t=a5∧f=b5):=by
 cases h1:Nat.beq t a1 with
 |true=>rw[h1]at h;exact .inl ⟨Nat.eq_of_beq_eq_true h1,(Option.some.inj h).symm⟩
 |false=>
  rw[h1]at h;refine .inr ?_
  cases h1:Nat.beq t a2 with
  |true=>rw[h1]at h;exact .inl ⟨Nat.eq_of_beq_eq_true h1,(Option.some.inj h).symm⟩
  |false=>
   rw[h1]at h;refine .inr ?_
   cases h1:Nat.beq t a3 with
   |true=>rw[h1]at h;exact .inl ⟨Nat.eq_of_beq_eq_true h1,(Option.some.inj h).symm⟩
   |false=>
    rw[h1]at h;refine .inr ?_
    cases h1:Nat.beq t a4 with
    |true=>rw[h1]at h;exact .inl ⟨Nat.eq_of_beq_eq_true h1,(Option.some.inj h).symm⟩
    |false=>
     rw[h1]at h;refine .inr ?_
     cases h1:Nat.beq t a5 with
     |true=>rw[h1]at h;exact⟨Nat.eq_of_beq_eq_true h1,(Option.some.inj h).symm⟩
     |false=>rw[h1]at h;cases h
theorem methE_ok:∀ t s f,methE t s=some f→∀ v w,(method (Tryz.prog.types.size+Made.depth) t v s).run Tryz.prog w=.ok (f,v) w:=by
 intro t s f h v w; unfold methE at h; cases h_speed : (s == "eddy/element.speed") with
 |true=>
  rw[h_speed]at h
  have e : s = "eddy/element.speed" := by simpa using h_speed
  subst e; rcases pick5y h with ⟨rfl,rfl⟩|⟨rfl,rfl⟩|⟨rfl,rfl⟩|⟨rfl,rfl⟩|⟨rfl,rfl⟩
  ·exact calm_run (m_speed_59 v) w
  ·exact calm_run (m_speed_61 v) w
  ·exact calm_run (m_speed_63 v) w
  ·exact calm_run (m_speed_65 v) w
  ·exact calm_run (m_speed_69 v) w
 |false=>
  rw[h_speed]at h
  simp only[cond_false]at h
  cases h_potential : (s == "eddy/element.potential") with
  |true=>
   rw[h_potential]at h
   have e : s = "eddy/element.potential" := by simpa using h_potential
   subst e; rcases pick5y h with ⟨rfl,rfl⟩|⟨rfl,rfl⟩|⟨rfl,rfl⟩|⟨rfl,rfl⟩|⟨rfl,rfl⟩
   ·exact calm_run (m_potential_59 v) w
   ·exact calm_run (m_potential_61 v) w
   ·exact calm_run (m_potential_63 v) w
   ·exact calm_run (m_potential_65 v) w
   ·exact calm_run (m_potential_69 v) w
  |false=>
   rw[h_potential]at h
   simp only[cond_false]at h
   cases h_slope : (s == "eddy/element.slope") with
   |true=>
    rw[h_slope]at h
    have e : s = "eddy/element.slope" := by simpa using h_slope
    subst e; rcases pick5y h with ⟨rfl,rfl⟩|⟨rfl,rfl⟩|⟨rfl,rfl⟩|⟨rfl,rfl⟩|⟨rfl,rfl⟩
    ·exact calm_run (m_slope_59 v) w
    ·exact calm_run (m_slope_61 v) w
    ·exact calm_run (m_slope_63 v) w
    ·exact calm_run (m_slope_65 v) w
    ·exact calm_run (m_slope_69 v) w
   |false=>
    rw[h_slope]at h
    simp only[cond_false]at h
    cases h
theorem cxv_ok {l:List (Nat×Sum)} (h:AllOk Tryz.prog l):(cxv Tryz.prog l).Ok where
 fair:=fiReal_fair
 sums:=fun f g hg=>tab_ok h f g hg
 exts:=fun f g hg=>by cases hg
 meths:=methE_ok
 nan1:=fun f hf=>by cases hf
 hs:=fun f args H v h=>by cases h
theorem bif_beq {α:Type} {p W:Nat} {x y r:α} (h:(bif Nat.beq p W then x else y)=r):(p=W∧x=r)∨y=r:=by
 cases hb:Nat.beq p W with
 |true=>rw[hb]at h;exact .inl ⟨Nat.eq_of_beq_eq_true hb,h⟩
 |false=>rw[hb]at h;exact .inr h
theorem bif_int {α:Type} {p W:Int} {x y r:α} (h:(bif p == W then x else y)=r):(p=W∧x=r)∨y=r:=by
 cases hb:p == W with
 |true=>rw[hb]at h;exact .inl ⟨by simpa using hb,h⟩
 |false=>rw[hb]at h;exact .inr h
def ToldV (f:FuncId) (kind:Int) (a1 a2 s1 s2 p z1 z2:Nat) {R:Type} (k:Value→Option R) (r:R):Prop:=
 ∃ v,k v=some r∧flat v=true∧∀ w,Calls Tryz.prog f ⟨[.agg ⟨[.int .u8 kind,.complex .f64 a1 a2,.complex .f64 s1 s2,.float .f64 p]⟩,.complex .f64 z1 z2]⟩ w fun e w'=>e=.returned v∧RowKit.Below w.heap.size w w'
theorem t_vS1 (R:Type) (a1 a2 s1 s2 p z1 z2:Nat) (k:Value→Option R) (r:R) (hr:vS1 a1 a2 s1 s2 p z1 z2 (vErr k) (zOk k)=some r):ToldV 28 1 a1 a2 s1 s2 p z1 z2 k r:=by
 unfold vS1 at hr; exact evFn_sound (cxv_ok (.cons k_check2 h_check (.cons k243 h243 (.cons k244 h244 (.cons k93 h93 (.cons k21 h21 .nil)))))) zm_ok ((y_S1 placeK withinK noughtK FiniteK wholeK subK R a1 a2 s1 s2 p z1 z2 k).trans hr) rfl
theorem t_vO1 (R:Type) (a1 a2 s1 s2 p z1 z2:Nat) (k:Value→Option R) (r:R) (hr:vO1 a1 a2 s1 s2 p z1 z2 (vErr k) (zOk k)=some r):ToldV 28 2 a1 a2 s1 s2 p z1 z2 k r:=by
 unfold vO1 at hr; exact evFn_sound (cxv_ok (.cons k_check2 h_check (.cons k243 h243 (.cons k244 h244 (.cons k93 h93 (.cons k21 h21 (.cons k179 h179 (.cons k39 h39 (.cons k165 h165 .nil))))))))) zm_ok ((y_O1 placeK withinK noughtK FiniteK wholeK subK divK sclK R a1 a2 s1 s2 p z1 z2 k).trans hr) rfl
theorem t_vD1_1 (R:Type) (a1 a2 s1 s2 p z1 z2:Nat) (k:Value→Option R) (r:R) (hr:vD1_1 a1 a2 s1 s2 p z1 z2 (vErr k) (zOk k)=some r):ToldV 28 3 a1 a2 s1 s2 4607182418800017408 z1 z2 k r:=by
 unfold vD1_1 at hr; exact evFn_sound (cxv_ok (.cons k_check2 h_check (.cons k243 h243 (.cons k244 h244 (.cons k93 h93 (.cons k21 h21 (.cons k179 h179 (.cons k39 h39 (.cons k_pow h_pow .nil))))))))) zm_ok ((y_D1_1 placeK withinK noughtK FiniteK wholeK subK divK sclK wpowK R a1 a2 s1 s2 z1 z2 k).trans hr) rfl
theorem t_vD1_2 (R:Type) (a1 a2 s1 s2 p z1 z2:Nat) (k:Value→Option R) (r:R) (hr:vD1_2 a1 a2 s1 s2 p z1 z2 (vErr k) (zOk k)=some r):ToldV 28 3 a1 a2 s1 s2 4611686018427387904 z1 z2 k r:=by
 unfold vD1_2 at hr; exact evFn_sound (cxv_ok (.cons k_check2 h_check (.cons k243 h243 (.cons k244 h244 (.cons k93 h93 (.cons k21 h21 (.cons k179 h179 (.cons k39 h39 (.cons k_pow h_pow .nil))))))))) zm_ok ((y_D1_2 placeK withinK noughtK FiniteK wholeK subK divK sclK wpowK R a1 a2 s1 s2 z1 z2 k).trans hr) rfl
theorem t_vD1_3 (R:Type) (a1 a2 s1 s2 p z1 z2:Nat) (k:Value→Option R) (r:R) (hr:vD1_3 a1 a2 s1 s2 p z1 z2 (vErr k) (zOk k)=some r):ToldV 28 3 a1 a2 s1 s2 4613937818241073152 z1 z2 k r:=by
 unfold vD1_3 at hr; exact evFn_sound (cxv_ok (.cons k_check2 h_check (.cons k243 h243 (.cons k244 h244 (.cons k93 h93 (.cons k21 h21 (.cons k179 h179 (.cons k39 h39 (.cons k_pow h_pow .nil))))))))) zm_ok ((y_D1_3 placeK withinK noughtK FiniteK wholeK subK divK sclK wpowK R a1 a2 s1 s2 z1 z2 k).trans hr) rfl
theorem t_vD1_4 (R:Type) (a1 a2 s1 s2 p z1 z2:Nat) (k:Value→Option R) (r:R) (hr:vD1_4 a1 a2 s1 s2 p z1 z2 (vErr k) (zOk k)=some r):ToldV 28 3 a1 a2 s1 s2 4616189618054758400 z1 z2 k r:=by
 unfold vD1_4 at hr; exact evFn_sound (cxv_ok (.cons k_check2 h_check (.cons k243 h243 (.cons k244 h244 (.cons k93 h93 (.cons k21 h21 (.cons k179 h179 (.cons k39 h39 (.cons k_pow h_pow .nil))))))))) zm_ok ((y_D1_4 placeK withinK noughtK FiniteK wholeK subK divK sclK wpowK R a1 a2 s1 s2 z1 z2 k).trans hr) rfl
theorem t_vD1_5 (R:Type) (a1 a2 s1 s2 p z1 z2:Nat) (k:Value→Option R) (r:R) (hr:vD1_5 a1 a2 s1 s2 p z1 z2 (vErr k) (zOk k)=some r):ToldV 28 3 a1 a2 s1 s2 4617315517961601024 z1 z2 k r:=by
 unfold vD1_5 at hr; exact evFn_sound (cxv_ok (.cons k_check2 h_check (.cons k243 h243 (.cons k244 h244 (.cons k93 h93 (.cons k21 h21 (.cons k179 h179 (.cons k39 h39 (.cons k_pow h_pow .nil))))))))) zm_ok ((y_D1_5 placeK withinK noughtK FiniteK wholeK subK divK sclK wpowK R a1 a2 s1 s2 z1 z2 k).trans hr) rfl
theorem t_vD1_6 (R:Type) (a1 a2 s1 s2 p z1 z2:Nat) (k:Value→Option R) (r:R) (hr:vD1_6 a1 a2 s1 s2 p z1 z2 (vErr k) (zOk k)=some r):ToldV 28 3 a1 a2 s1 s2 4618441417868443648 z1 z2 k r:=by
 unfold vD1_6 at hr; exact evFn_sound (cxv_ok (.cons k_check2 h_check (.cons k243 h243 (.cons k244 h244 (.cons k93 h93 (.cons k21 h21 (.cons k179 h179 (.cons k39 h39 (.cons k_pow h_pow .nil))))))))) zm_ok ((y_D1_6 placeK withinK noughtK FiniteK wholeK subK divK sclK wpowK R a1 a2 s1 s2 z1 z2 k).trans hr) rfl
theorem t_vD1_7 (R:Type) (a1 a2 s1 s2 p z1 z2:Nat) (k:Value→Option R) (r:R) (hr:vD1_7 a1 a2 s1 s2 p z1 z2 (vErr k) (zOk k)=some r):ToldV 28 3 a1 a2 s1 s2 4619567317775286272 z1 z2 k r:=by
 unfold vD1_7 at hr; exact evFn_sound (cxv_ok (.cons k_check2 h_check (.cons k243 h243 (.cons k244 h244 (.cons k93 h93 (.cons k21 h21 (.cons k179 h179 (.cons k39 h39 (.cons k_pow h_pow .nil))))))))) zm_ok ((y_D1_7 placeK withinK noughtK FiniteK wholeK subK divK sclK wpowK R a1 a2 s1 s2 z1 z2 k).trans hr) rfl
theorem t_vD1_8 (R:Type) (a1 a2 s1 s2 p z1 z2:Nat) (k:Value→Option R) (r:R) (hr:vD1_8 a1 a2 s1 s2 p z1 z2 (vErr k) (zOk k)=some r):ToldV 28 3 a1 a2 s1 s2 4620693217682128896 z1 z2 k r:=by
 unfold vD1_8 at hr; exact evFn_sound (cxv_ok (.cons k_check2 h_check (.cons k243 h243 (.cons k244 h244 (.cons k93 h93 (.cons k21 h21 (.cons k179 h179 (.cons k39 h39 (.cons k_pow h_pow .nil))))))))) zm_ok ((y_D1_8 placeK withinK noughtK FiniteK wholeK subK divK sclK wpowK R a1 a2 s1 s2 z1 z2 k).trans hr) rfl
theorem t_vC1_1 (R:Type) (a1 a2 s1 s2 p z1 z2:Nat) (k:Value→Option R) (r:R) (hr:vC1_1 a1 a2 s1 s2 p z1 z2 (vErr k) (zOk k)=some r):ToldV 28 4 a1 a2 s1 s2 4607182418800017408 z1 z2 k r:=by
 unfold vC1_1 at hr; exact evFn_sound (cxv_ok (.cons k_check2 h_check (.cons k243 h243 (.cons k244 h244 (.cons k93 h93 (.cons k21 h21 (.cons k22 h22 (.cons k39 h39 (.cons k_pow h_pow (.cons k_whY h_whole .nil)))))))))) zm_ok ((y_C1_1 placeK withinK noughtK FiniteK wholeK subK mulK sclK wpowK wyK R a1 a2 s1 s2 z1 z2 k).trans hr) rfl
theorem t_vC1_2 (R:Type) (a1 a2 s1 s2 p z1 z2:Nat) (k:Value→Option R) (r:R) (hr:vC1_2 a1 a2 s1 s2 p z1 z2 (vErr k) (zOk k)=some r):ToldV 28 4 a1 a2 s1 s2 4611686018427387904 z1 z2 k r:=by
 unfold vC1_2 at hr; exact evFn_sound (cxv_ok (.cons k_check2 h_check (.cons k243 h243 (.cons k244 h244 (.cons k93 h93 (.cons k21 h21 (.cons k22 h22 (.cons k39 h39 (.cons k_pow h_pow (.cons k_whY h_whole .nil)))))))))) zm_ok ((y_C1_2 placeK withinK noughtK FiniteK wholeK subK mulK sclK wpowK wyK R a1 a2 s1 s2 z1 z2 k).trans hr) rfl
theorem t_vC1_3 (R:Type) (a1 a2 s1 s2 p z1 z2:Nat) (k:Value→Option R) (r:R) (hr:vC1_3 a1 a2 s1 s2 p z1 z2 (vErr k) (zOk k)=some r):ToldV 28 4 a1 a2 s1 s2 4613937818241073152 z1 z2 k r:=by
 unfold vC1_3 at hr; exact evFn_sound (cxv_ok (.cons k_check2 h_check (.cons k243 h243 (.cons k244 h244 (.cons k93 h93 (.cons k21 h21 (.cons k22 h22 (.cons k39 h39 (.cons k_pow h_pow (.cons k_whY h_whole .nil)))))))))) zm_ok ((y_C1_3 placeK withinK noughtK FiniteK wholeK subK mulK sclK wpowK wyK R a1 a2 s1 s2 z1 z2 k).trans hr) rfl
theorem t_vC1_4 (R:Type) (a1 a2 s1 s2 p z1 z2:Nat) (k:Value→Option R) (r:R) (hr:vC1_4 a1 a2 s1 s2 p z1 z2 (vErr k) (zOk k)=some r):ToldV 28 4 a1 a2 s1 s2 4616189618054758400 z1 z2 k r:=by
 unfold vC1_4 at hr; exact evFn_sound (cxv_ok (.cons k_check2 h_check (.cons k243 h243 (.cons k244 h244 (.cons k93 h93 (.cons k21 h21 (.cons k22 h22 (.cons k39 h39 (.cons k_pow h_pow (.cons k_whY h_whole .nil)))))))))) zm_ok ((y_C1_4 placeK withinK noughtK FiniteK wholeK subK mulK sclK wpowK wyK R a1 a2 s1 s2 z1 z2 k).trans hr) rfl
theorem t_vB1 (R:Type) (a1 a2 s1 s2 p z1 z2:Nat) (k:Value→Option R) (r:R) (hr:vB1 a1 a2 s1 s2 p z1 z2 (vErr k) (zOk k)=some r):ToldV 28 4 a1 a2 s1 s2 p z1 z2 k r:=by
 unfold vB1 at hr; exact evFn_sound (cxv_ok (.cons k_check2 h_check (.cons k243 h243 (.cons k244 h244 (.cons k93 h93 (.cons k21 h21 (.cons k22 h22 (.cons k39 h39 (.cons k_real h_real (.cons k_whN h_whole .nil)))))))))) zm_ok ((y_B1 placeK withinK noughtK FiniteK wholeK subK mulK sclK realK wnK R a1 a2 s1 s2 p z1 z2 k).trans hr) rfl
theorem t_vD1 (R:Type) (a1 a2 s1 s2 p z1 z2:Nat) (k:Value→Option R) (r:R) (hr:vD1 a1 a2 s1 s2 p z1 z2 (vErr k) (zOk k)=some r):ToldV 28 3 a1 a2 s1 s2 p z1 z2 k r:=by
 unfold vD1 at hr; rcases bif_beq hr with ⟨e,hr⟩|hr
 ·rw[e]
  exact t_vD1_1 R a1 a2 s1 s2 p z1 z2 k r hr
 rcases bif_beq hr with ⟨e,hr⟩|hr
 ·rw[e]
  exact t_vD1_2 R a1 a2 s1 s2 p z1 z2 k r hr
 rcases bif_beq hr with ⟨e,hr⟩|hr
 ·rw[e]
  exact t_vD1_3 R a1 a2 s1 s2 p z1 z2 k r hr
 rcases bif_beq hr with ⟨e,hr⟩|hr
 ·rw[e]
  exact t_vD1_4 R a1 a2 s1 s2 p z1 z2 k r hr
 rcases bif_beq hr with ⟨e,hr⟩|hr
 ·rw[e]
  exact t_vD1_5 R a1 a2 s1 s2 p z1 z2 k r hr
 rcases bif_beq hr with ⟨e,hr⟩|hr
 ·rw[e]
  exact t_vD1_6 R a1 a2 s1 s2 p z1 z2 k r hr
 rcases bif_beq hr with ⟨e,hr⟩|hr
 ·rw[e]
  exact t_vD1_7 R a1 a2 s1 s2 p z1 z2 k r hr
 rcases bif_beq hr with ⟨e,hr⟩|hr
 ·rw[e]
  exact t_vD1_8 R a1 a2 s1 s2 p z1 z2 k r hr
 cases hr
theorem t_vC1 (R:Type) (a1 a2 s1 s2 p z1 z2:Nat) (k:Value→Option R) (r:R) (hr:vC1 a1 a2 s1 s2 p z1 z2 (vErr k) (zOk k)=some r):ToldV 28 4 a1 a2 s1 s2 p z1 z2 k r:=by
 unfold vC1 at hr; rcases bif_beq hr with ⟨e,hr⟩|hr
 ·rw[e]
  exact t_vC1_1 R a1 a2 s1 s2 p z1 z2 k r hr
 rcases bif_beq hr with ⟨e,hr⟩|hr
 ·rw[e]
  exact t_vC1_2 R a1 a2 s1 s2 p z1 z2 k r hr
 rcases bif_beq hr with ⟨e,hr⟩|hr
 ·rw[e]
  exact t_vC1_3 R a1 a2 s1 s2 p z1 z2 k r hr
 rcases bif_beq hr with ⟨e,hr⟩|hr
 ·rw[e]
  exact t_vC1_4 R a1 a2 s1 s2 p z1 z2 k r hr
 exact t_vB1 R a1 a2 s1 s2 p z1 z2 k r hr
theorem k_spdK:SumOk Tryz.prog 28 (sVal spdK):=by
 intro R args k r hr; unfold sVal at hr;split at hr
 ·rename_i kind a1 a2 s1 s2 p z1 z2
  replace hr:spdK' kind a1 a2 s1 s2 p z1 z2 (vErr k) (zOk k)=some r:=hr
  refine⟨rfl,?_⟩
  show ToldV 28 kind a1 a2 s1 s2 p z1 z2 k r; unfold spdK' at hr; rcases bif_int hr with ⟨e,hr⟩|hr
  ·rw[e]
   exact t_vS1 R a1 a2 s1 s2 p z1 z2 k r hr
  rcases bif_int hr with ⟨e,hr⟩|hr
  ·rw[e]
   exact t_vO1 R a1 a2 s1 s2 p z1 z2 k r hr
  rcases bif_int hr with ⟨e,hr⟩|hr
  ·rw[e]
   exact t_vD1 R a1 a2 s1 s2 p z1 z2 k r hr
  rcases bif_int hr with ⟨e,hr⟩|hr
  ·rw[e]
   exact t_vC1 R a1 a2 s1 s2 p z1 z2 k r hr
  cases hr
 ·cases hr
theorem zw_whole (tr:KFF) (R:Type) p (k:Value→Option R):evFn (cxf fiReal Tryz.prog [] [(128,sFF tr)]) 60 114 [.float .f64 p] k=wholeB tr R p fun t=>k (.bool t):=by kernel_rfl
theorem hTrunc:ExtOk Tryz.prog 128 (sFF (roundK .zero)):=fun R args k r hr=>e280 R args k r (by
 unfold sFF at hr;split at hr
 ·exact hr
 ·cases hr)
theorem k245w:SumOk Tryz.prog 114 (sFB wholeK):=sumOk_exts (l:=[]) (es:=[(128,sFF (roundK .zero))]) (n:=60) zm_ok .nil (exts_ok (.cons hTrunc .nil)) fun R args k r hr=>by
 unfold sFB at hr;split at hr
 ·simp only[forceB_eq]at hr
  exact⟨rfl,by rw[zw_whole];exact hr⟩
 ·cases hr
theorem k199w:SumOk Tryz.prog 84 (sEI checkE):=sumOk_of zm_ok (.cons k243 h243 (.cons k80 h80 (.cons k244 h244 (.cons k245w h245 .nil)))) (n:=60) fun R args k r hr=>by
 unfold sEI at hr;split at hr
 ·rename_i kind a1 a2 s1 s2 p
  exact⟨rfl,(z_echeck placeK withinK noughtK wholeK R kind a1 a2 s1 s2 p k).trans hr⟩
 ·cases hr
theorem ceC_ok:(ckC fiReal rEl rSt (rAp Tryz.prog) checkE).Ok:=cxM_ok no_meth (.cons k199w h199 .nil) no_ext .nil .nil (mmOf_ok lds1)
def ToldE (er:El→Int) (x:El):Prop:=∀(R:Type) (k:Int→Option R),checkE R x.kind x.a1 x.a2 x.s1 x.s2 x.p k=k (er x)
section
variable {cs:List Value} {sz o c:Nat} {xs:List El} {er:El→Int}
theorem ce_step (hx:ElsAt cs o xs) (hn:xs.length≤256) {k:Nat} {x:El} (hk:xs[k]?=some x) (he:ToldE er x) (h0:er x=0):
  BaseOk Tryz.prog 1 23 ⟨2,[(0,.cells cs sz)]⟩ (ckE o xs.length c k) ⟨2,[(0,.cells cs sz)]⟩ .normal (ckE o xs.length c (k+1:Nat)) ⟨2,[(0,.cells cs sz)]⟩ (fun Q a w=>ckLoop.wp Tryz.prog Q a w):=by
 have hkn:=(List.getElem?_eq_some_iff.1 hk).1; exact round_told (C:=ckC fiReal rEl rSt (rAp Tryz.prog) checkE) (H0:=⟨2,[(0,.cells cs sz)]⟩) (e:=ckE o xs.length c k) (H:=⟨2,[(0,.cells cs sz)]⟩) (n:=60) (ts:=[13,12,11,2]) (bo:=[]) (bs:=[]) (A:=[]) (B:=[(0,.cells cs sz)]) (D:=[]) ceC_ok zm_ok ck_loops
  (by
    rw[ck_round,decide_eq_true (show (k:Int)<xs.length by omega),cond_true,idx_ok,cond_true,rEl_at hx hk,he,h0]
    show fiReal _ _ _=_
    rw[fiReal_fair,wrap_up (by omega)]) rfl rfl rfl rfl rfl rfl rfl
theorem ce_bad (hx:ElsAt cs o xs) (hn:xs.length≤256) {k:Nat} {x:El} (hk:xs[k]?=some x) (he:ToldE er x) (h0:er x≠0):
  BaseOk Tryz.prog 1 23 ⟨2,[(0,.cells cs sz)]⟩ (ckE o xs.length c k) ⟨2,[(0,.cells cs sz)]⟩ .ret (ckX o xs.length c k (er x)) ⟨2,[(0,.cells cs sz)]⟩ (fun Q a w=>ckLoop.wp Tryz.prog Q a w):=by
 have hkn:=(List.getElem?_eq_some_iff.1 hk).1; exact round_told (C:=ckC fiReal rEl rSt (rAp Tryz.prog) checkE) (H0:=⟨2,[(0,.cells cs sz)]⟩) (e:=ckE o xs.length c k) (H:=⟨2,[(0,.cells cs sz)]⟩) (n:=60) (ts:=[13,12,11,2]) (bo:=[]) (bs:=[]) (A:=[]) (B:=[(0,.cells cs sz)]) (D:=[]) ceC_ok zm_ok ck_loops
  (by
    rw[ck_round,decide_eq_true (show (k:Int)<xs.length by omega),cond_true,idx_ok,cond_true,rEl_at hx hk,he,show (er x != 0)=true by simpa using h0]
    rfl) rfl rfl rfl rfl rfl rfl rfl
theorem ce_last {n:Nat}:
  BaseOk Tryz.prog 1 23 ⟨2,[(0,.cells cs sz)]⟩ (ckE o n c n) ⟨2,[(0,.cells cs sz)]⟩ (.exit 0) (ckE o n c n) ⟨2,[(0,.cells cs sz)]⟩ (fun Q a w=>ckLoop.wp Tryz.prog Q a w):=
 round_told (C:=ckC fiReal rEl rSt (rAp Tryz.prog) checkE) (H0:=⟨2,[(0,.cells cs sz)]⟩) (e:=ckE o n c n) (H:=⟨2,[(0,.cells cs sz)]⟩) (n:=60) (ts:=[13,12,11,2]) (bo:=[]) (bs:=[]) (A:=[]) (B:=[(0,.cells cs sz)]) (D:=[]) ceC_ok zm_ok ck_loops
  (by rw[ck_round,decide_eq_false (by omega)];rfl) rfl rfl rfl rfl rfl rfl rfl
theorem ce_rounds (hx:ElsAt cs o xs) (hn:xs.length≤256) (he:∀ x∈xs,ToldE er x):∀(ys:List El) (k:Nat),xs.drop k=ys→k≤xs.length→
  ∃ ex e',BaseRounds Tryz.prog 1 23 ⟨2,[(0,.cells cs sz)]⟩ ckLoop (ckE o xs.length c k) ⟨2,[(0,.cells cs sz)]⟩ ex e' ⟨2,[(0,.cells cs sz)]⟩∧
   ((ex=.exit 0∧e'=ckE o xs.length c xs.length∧firstEr (ys.map er)=0)∨(ex=.ret∧∃ j:Nat,e'=ckX o xs.length c j (firstEr (ys.map er))))
 |[],k,hd,hk=>by
  have:k=xs.length:=by have:=congrArg List.length hd;rw[List.length_drop]at this;simp at this;omega
  subst this
  exact⟨_,_,base_end (by intro h;cases h) ce_last,.inl ⟨rfl,rfl,rfl⟩⟩
 |y::ys,k,hd,hk=>by
  have hkx:xs[k]?=some y:=by rw[← List.head?_drop,hd];rfl
  have hm:y∈xs:=List.mem_of_getElem? hkx; have hl:=(List.getElem?_eq_some_iff.1 hkx).1; by_cases h0:er y=0
  ·obtain⟨ex,e',h1,h2⟩:=ce_rounds hx hn he ys (k+1) (by rw[← List.tail_drop,hd];rfl) (by omega)
   refine⟨ex,e',base_step (ce_step hx hn hkx (he y hm) h0) h1,?_⟩
   simp only[List.map_cons,firstEr,if_pos h0]
   exact h2
  ·refine⟨_,_,base_end (by intro h;cases h) (ce_bad hx hn hkx (he y hm) h0),.inr ⟨rfl,k,?_⟩⟩
   simp only[List.map_cons,firstEr,if_neg h0]
theorem check_callE (hx:ElsAt cs o xs) (he:xs.length≤256→∀ x∈xs,ToldE er x):FlatCall Tryz.prog 34 [flowV o xs.length c] ⟨1,[(0,.cells cs sz)]⟩ (.int .i64 (flowEr er xs)):=by
 by_cases hn:256<xs.length
 ·have h:=ck_top fiReal noL (Ex×Env×Objs) rEl rSt (rAp Tryz.prog) checkE cs sz o xs.length c fun ex e O=>some (ex,e,O)
  rw[decide_eq_true (by omega),cond_true]at h
  have:=fun_flat (C:=ckC fiReal rEl rSt (rAp Tryz.prog) checkE) ceC_ok zm_ok Tryz.func34 ck_body (fun a _=>slimL_ok noL_ok) (Nat.le_of_ble_eq_true rfl) h (.inr rfl) (vs:=[.int .i64 7]) rfl rfl
  unfold flowEr
  rw[if_pos hn]
  exact this
 ·obtain⟨ex,e',h1,h2⟩:=ce_rounds (c:=c) (sz:=sz) hx (by omega) (he (by omega)) xs 0 rfl (Nat.zero_le _)
  have hl:=@base_loop _ _ _ _ _ _ _ _ _ h1; have h:=ck_top fiReal (told Tryz.prog ex e' ⟨2,[(0,.cells cs sz)]⟩) (Ex×Env×Objs) rEl rSt (rAp Tryz.prog) checkE cs sz o xs.length c fun ex e O=>some (ex,e,O)
  rw[decide_eq_false (by omega),cond_false]at h
  have h':=h.trans (told_eq @hl _ _); unfold flowEr
  rw[if_neg hn]
  rcases h2 with ⟨rfl,rfl,h2⟩|⟨rfl,j,rfl⟩
  ·rw[leave_then,ck_end]at h'
   rw[h2]
   exact fun_flat (C:=ckC fiReal rEl rSt (rAp Tryz.prog) checkE) ceC_ok zm_ok Tryz.func34 ck_body (fun a _=>slimL_ok (told_ok _ _ _ _ a)) (Nat.le_of_ble_eq_true rfl) h' (.inr rfl) (vs:=[.int .i64 0]) rfl rfl
  ·exact fun_flat (C:=ckC fiReal rEl rSt (rAp Tryz.prog) checkE) ceC_ok zm_ok Tryz.func34 ck_body (fun a _=>slimL_ok (told_ok _ _ _ _ a)) (Nat.le_of_ble_eq_true rfl) h' (.inr rfl) (vs:=[.int .i64 (firstEr (xs.map er))]) rfl rfl
end
end Go.Vm
