/- The program's small functions of floats compute what the Lean functions tell; no conditions. The program's exponentials, turns, powers and values of elements compute what the Lean functions tell; no conditions. The program's ElementMoved and Moved compute what the Lean functions tell; no conditions. -/
import Derived.Test.YtnbpfafngidimaaVmKV
import Derived.Test.YtnbpfafngidimaaProg
namespace Go.Vm
open Go.Proofs
set_option linter.unusedVariables false
set_option maxRecDepth 1000000
theorem y_rising (R : Type) r (k : Value → Option R) : evFn (cx Try.prog []) 60 104 [.float .f64 r, .int .i64 1] k = risingK R r fun x => k (.float .f64 x) := by kernel_rfl
theorem y_exp (fi : Fi) (wh ris : KFF) (scal : KFIF) (R : Type) x (k : Value → Option R) : evFn (cxf fi Try.prog [(103, sFF wh), (104, sRising ris), (77, sFIF scal), (71, sInfW2)] []) 60 101 [.float .f64 x] k = expB fi wh ris scal R x fun x => k (.float .f64 x) := by kernel_rfl
theorem y_less (R : Type) x m (k : Value → Option R) : evFn (cx Try.prog [(41, xFrom)]) 60 109 [.float .f64 x, .float .f64 m, .float .f64 4607182418800017408] k = lessK R x m fun x => k (.float .f64 x) := by kernel_rfl
theorem y_steps (R : Type) y (k : Value → Option R) : evFn (cx Try.prog []) 60 106 [.float .f64 y] k = stepsK R y fun s c => k (.tuple ⟨[.float .f64 s, .float .f64 c]⟩) := by kernel_rfl
theorem y_quarter (fi : Fi) (fit : KFB) (wh : KFF) (ls : KFFF) (R : Type) x (k : Value → Option R) : evFn (cxf fi Try.prog [(108, sFB fit), (103, sFF wh), (109, sLess ls), (70, sNever), (41, xFrom)] []) 60 105 [.float .f64 x] k =
  quarterB fi fit wh ls R x fun y n => k (.tuple ⟨[.float .f64 y, .int .i64 n]⟩) := by kernel_rfl
theorem y_turn (q : KFFI2) (st : KFF2) (R : Type) x (k : Value → Option R) : evFn (cx Try.prog [(105, sFFI q), (106, sFF2 st)]) 60 102 [.float .f64 x] k = turnB q st R x fun s c => k (.tuple ⟨[.float .f64 s, .float .f64 c]⟩) := by kernel_rfl
theorem y_cexp (ex : KFF) (tn : KFF2) (R : Type) a b (k : Value → Option R) : evFn (cx Try.prog [(101, sFF ex), (102, sFF2 tn)]) 60 100 [.complex .f64 a b] k = cexpB ex tn R a b fun x y => k (.complex .f64 x y) := by kernel_rfl
theorem y_real (lg : KCC) (scl : KCFC) (ex : KCC) (R : Type) a b p (k : Value → Option R) : evFn (cx Try.prog [(61, sCC lg), (36, sCFC scl), (100, sCC ex)]) 60 99 [.complex .f64 a b, .float .f64 p] k = realB lg scl ex R a b p fun x y => k (.complex .f64 x y) := by kernel_rfl
theorem y_w1 (mul : KCCC) (R : Type) a b (k : Value → Option R) : evFn (cx Try.prog [(15, sCCC mul)]) 60 64 [.complex .f64 a b, .int .i64 1] k = k (.complex .f64 a b) := by kernel_rfl
theorem y_w5 (mul : KCCC) (R : Type) a b (k : Value → Option R) : evFn (cx Try.prog [(15, sCCC mul)]) 60 64 [.complex .f64 a b, .int .i64 5] k = wsteps mul a b (wbits 5) a b fun x y => k (.complex .f64 x y) := by kernel_rfl
theorem y_w10 (mul : KCCC) (R : Type) a b (k : Value → Option R) : evFn (cx Try.prog [(15, sCCC mul)]) 60 64 [.complex .f64 a b, .int .i64 10] k = wsteps mul a b (wbits 10) a b fun x y => k (.complex .f64 x y) := by kernel_rfl
end Go.Vm
namespace Go.Vm
open Go.Proofs
set_option linter.unusedVariables false
set_option maxRecDepth 1000000
/-- methods of elements -/
def methE (t : TypeId) (s : String) : Option FuncId :=
  bif s == "eddy/element.speed" then
    (bif Nat.beq t 59 then some 60 else bif Nat.beq t 61 then some 94 else bif Nat.beq t 63 then some 98 else bif Nat.beq t 65 then some 112 else bif Nat.beq t 69 then some 115 else none)
  else bif s == "eddy/element.potential" then
    (bif Nat.beq t 59 then some 58 else bif Nat.beq t 61 then some 92 else bif Nat.beq t 63 then some 96 else bif Nat.beq t 65 then some 110 else bif Nat.beq t 69 then some 113 else none)
  else bif s == "eddy/element.slope" then
    (bif Nat.beq t 59 then some 59 else bif Nat.beq t 61 then some 93 else bif Nat.beq t 63 then some 97 else bif Nat.beq t 65 then some 111 else bif Nat.beq t 69 then some 114 else none)
  else none
def cxv (P : Program) (l : List (Nat × Sum)) : Cx := { P := P, sums := tab l, exts := fun _ => none, meths := methE, wild := fun _ => false, fi := fiReal, nn := false, nan1 := fun _ => false, defs := fun _ => false, hs := fun _ _ _ => none }
theorem y_S0 (re : KCB) (wi : KFFB) (no fin : KCB) (wh : KFB) (sub : KCCC) (mul : KCCC) (R : Type) a1 a2 s1 s2 p z1 z2 (k : Value → Option R) :
  evFn (cxv Try.prog [(7, sEI (checkB re wi no wh)), (19, sCB re), (21, sCB no), (33, sCB fin), (14, sCCC sub), (15, sCCC mul)]) 60 10 [el 1 a1 a2 s1 s2 p, .complex .f64 z1 z2] k =
    valP (checkB re wi no wh) re no sub 1 p (fun x => x) a1 a2 s1 s2 z1 z2 (vErr k) (fun d1 d2 => mul R s1 s2 z1 z2 (toldE fin (vErr k) (zOk k))) (fun d1 d2 => mul R s1 s2 z1 z2 (toldE fin (vErr k) (zOk k))) := by kernel_rfl
theorem y_S1 (re : KCB) (wi : KFFB) (no fin : KCB) (wh : KFB) (sub : KCCC)  (R : Type) a1 a2 s1 s2 p z1 z2 (k : Value → Option R) :
  evFn (cxv Try.prog [(7, sEI (checkB re wi no wh)), (19, sCB re), (21, sCB no), (33, sCB fin), (14, sCCC sub)]) 60 11 [el 1 a1 a2 s1 s2 p, .complex .f64 z1 z2] k =
    valP (checkB re wi no wh) re no sub 1 p (fun x => x) a1 a2 s1 s2 z1 z2 (vErr k) (fun d1 d2 => (toldE fin (vErr k) (zOk k)) s1 s2) (fun d1 d2 => (toldE fin (vErr k) (zOk k)) s1 s2) := by kernel_rfl
theorem y_S2 (re : KCB) (wi : KFFB) (no fin : KCB) (wh : KFB) (sub : KCCC)  (R : Type) a1 a2 s1 s2 p z1 z2 (k : Value → Option R) :
  evFn (cxv Try.prog [(7, sEI (checkB re wi no wh)), (19, sCB re), (21, sCB no), (33, sCB fin), (14, sCCC sub)]) 60 12 [el 1 a1 a2 s1 s2 p, .complex .f64 z1 z2] k =
    valP (checkB re wi no wh) re no sub 1 p (fun x => x) a1 a2 s1 s2 z1 z2 (vErr k) (fun d1 d2 => (toldE fin (vErr k) (zOk k)) 0 0) (fun d1 d2 => (toldE fin (vErr k) (zOk k)) 0 0) := by kernel_rfl
theorem y_O0 (re : KCB) (wi : KFFB) (no fin : KCB) (wh : KFB) (sub : KCCC) (mul : KCCC) (scl : KCFC) (lg : KCC) (R : Type) a1 a2 s1 s2 p z1 z2 (k : Value → Option R) :
  evFn (cxv Try.prog [(7, sEI (checkB re wi no wh)), (19, sCB re), (21, sCB no), (33, sCB fin), (14, sCCC sub), (15, sCCC mul), (36, sCFC scl), (40, sPi), (61, sCC lg)]) 60 10 [el 2 a1 a2 s1 s2 p, .complex .f64 z1 z2] k =
    valO (checkB re wi no wh) re no sub scl a1 a2 s1 s2 p z1 z2 (vErr k) (fun c1 c2 d1 d2 => lg R d1 d2 fun l1 l2 => mul R c1 c2 l1 l2 (toldE fin (vErr k) (zOk k))) := by kernel_rfl
theorem y_O1 (re : KCB) (wi : KFFB) (no fin : KCB) (wh : KFB) (sub : KCCC) (div : KCCC) (scl : KCFC) (R : Type) a1 a2 s1 s2 p z1 z2 (k : Value → Option R) :
  evFn (cxv Try.prog [(7, sEI (checkB re wi no wh)), (19, sCB re), (21, sCB no), (33, sCB fin), (14, sCCC sub), (62, sCCC div), (36, sCFC scl), (40, sPi)]) 60 11 [el 2 a1 a2 s1 s2 p, .complex .f64 z1 z2] k =
    valO (checkB re wi no wh) re no sub scl a1 a2 s1 s2 p z1 z2 (vErr k) (fun c1 c2 d1 d2 => div R c1 c2 d1 d2 (toldE fin (vErr k) (zOk k))) := by kernel_rfl
theorem y_O2 (re : KCB) (wi : KFFB) (no fin : KCB) (wh : KFB) (sub : KCCC) (div : KCCC) (scl : KCFC) (W : KW) (neg : KCC) (R : Type) a1 a2 s1 s2 p z1 z2 (k : Value → Option R) :
  evFn (cxv Try.prog [(7, sEI (checkB re wi no wh)), (19, sCB re), (21, sCB no), (33, sCB fin), (14, sCCC sub), (62, sCCC div), (36, sCFC scl), (40, sPi), (64, sKW W), (63, sCC neg)]) 60 12 [el 2 a1 a2 s1 s2 p, .complex .f64 z1 z2] k =
    valO (checkB re wi no wh) re no sub scl a1 a2 s1 s2 p z1 z2 (vErr k) (fun c1 c2 d1 d2 => neg R c1 c2 fun c1 c2 => W R d1 d2 2 fun w1 w2 => div R c1 c2 w1 w2 (toldE fin (vErr k) (zOk k))) := by kernel_rfl
theorem y_D0_1 (re : KCB) (wi : KFFB) (no fin : KCB) (wh : KFB) (sub : KCCC) (div : KCCC) (scl : KCFC) (W : KW) (R : Type) a1 a2 s1 s2 z1 z2 (k : Value → Option R) :
  evFn (cxv Try.prog [(7, sEI (checkB re wi no wh)), (19, sCB re), (21, sCB no), (33, sCB fin), (14, sCCC sub), (62, sCCC div), (36, sCFC scl), (64, sKW W)]) 60 10 [el 3 a1 a2 s1 s2 4607182418800017408, .complex .f64 z1 z2] k =
    valP (checkB re wi no wh) re no sub 3 4607182418800017408 (fun x => x) a1 a2 s1 s2 z1 z2 (vErr k) (fun _ _ => vErr k 6) (fun d1 d2 => leafD div scl W none 1 s1 s2 d1 d2 (toldE fin (vErr k) (zOk k))) := by kernel_rfl
theorem y_D1_1 (re : KCB) (wi : KFFB) (no fin : KCB) (wh : KFB) (sub : KCCC) (div : KCCC) (scl : KCFC) (W : KW) (R : Type) a1 a2 s1 s2 z1 z2 (k : Value → Option R) :
  evFn (cxv Try.prog [(7, sEI (checkB re wi no wh)), (19, sCB re), (21, sCB no), (33, sCB fin), (14, sCCC sub), (62, sCCC div), (36, sCFC scl), (64, sKW W)]) 60 11 [el 3 a1 a2 s1 s2 4607182418800017408, .complex .f64 z1 z2] k =
    valP (checkB re wi no wh) re no sub 3 4607182418800017408 (fun x => x) a1 a2 s1 s2 z1 z2 (vErr k) (fun _ _ => vErr k 6) (fun d1 d2 => leafD div scl W (some 13830554455654793216) 2 s1 s2 d1 d2 (toldE fin (vErr k) (zOk k))) := by kernel_rfl
theorem y_D2_1 (re : KCB) (wi : KFFB) (no fin : KCB) (wh : KFB) (sub : KCCC) (div : KCCC) (scl : KCFC) (W : KW) (R : Type) a1 a2 s1 s2 z1 z2 (k : Value → Option R) :
  evFn (cxv Try.prog [(7, sEI (checkB re wi no wh)), (19, sCB re), (21, sCB no), (33, sCB fin), (14, sCCC sub), (62, sCCC div), (36, sCFC scl), (64, sKW W)]) 60 12 [el 3 a1 a2 s1 s2 4607182418800017408, .complex .f64 z1 z2] k =
    valP (checkB re wi no wh) re no sub 3 4607182418800017408 (fun x => x) a1 a2 s1 s2 z1 z2 (vErr k) (fun _ _ => vErr k 6) (fun d1 d2 => leafD div scl W (some 4611686018427387904) 3 s1 s2 d1 d2 (toldE fin (vErr k) (zOk k))) := by kernel_rfl
theorem y_D0_2 (re : KCB) (wi : KFFB) (no fin : KCB) (wh : KFB) (sub : KCCC) (div : KCCC) (scl : KCFC) (W : KW) (R : Type) a1 a2 s1 s2 z1 z2 (k : Value → Option R) :
  evFn (cxv Try.prog [(7, sEI (checkB re wi no wh)), (19, sCB re), (21, sCB no), (33, sCB fin), (14, sCCC sub), (62, sCCC div), (36, sCFC scl), (64, sKW W)]) 60 10 [el 3 a1 a2 s1 s2 4611686018427387904, .complex .f64 z1 z2] k =
    valP (checkB re wi no wh) re no sub 3 4611686018427387904 (fun x => x) a1 a2 s1 s2 z1 z2 (vErr k) (fun _ _ => vErr k 6) (fun d1 d2 => leafD div scl W none 2 s1 s2 d1 d2 (toldE fin (vErr k) (zOk k))) := by kernel_rfl
theorem y_D1_2 (re : KCB) (wi : KFFB) (no fin : KCB) (wh : KFB) (sub : KCCC) (div : KCCC) (scl : KCFC) (W : KW) (R : Type) a1 a2 s1 s2 z1 z2 (k : Value → Option R) :
  evFn (cxv Try.prog [(7, sEI (checkB re wi no wh)), (19, sCB re), (21, sCB no), (33, sCB fin), (14, sCCC sub), (62, sCCC div), (36, sCFC scl), (64, sKW W)]) 60 11 [el 3 a1 a2 s1 s2 4611686018427387904, .complex .f64 z1 z2] k =
    valP (checkB re wi no wh) re no sub 3 4611686018427387904 (fun x => x) a1 a2 s1 s2 z1 z2 (vErr k) (fun _ _ => vErr k 6) (fun d1 d2 => leafD div scl W (some 13835058055282163712) 3 s1 s2 d1 d2 (toldE fin (vErr k) (zOk k))) := by kernel_rfl
theorem y_D2_2 (re : KCB) (wi : KFFB) (no fin : KCB) (wh : KFB) (sub : KCCC) (div : KCCC) (scl : KCFC) (W : KW) (R : Type) a1 a2 s1 s2 z1 z2 (k : Value → Option R) :
  evFn (cxv Try.prog [(7, sEI (checkB re wi no wh)), (19, sCB re), (21, sCB no), (33, sCB fin), (14, sCCC sub), (62, sCCC div), (36, sCFC scl), (64, sKW W)]) 60 12 [el 3 a1 a2 s1 s2 4611686018427387904, .complex .f64 z1 z2] k =
    valP (checkB re wi no wh) re no sub 3 4611686018427387904 (fun x => x) a1 a2 s1 s2 z1 z2 (vErr k) (fun _ _ => vErr k 6) (fun d1 d2 => leafD div scl W (some 4618441417868443648) 4 s1 s2 d1 d2 (toldE fin (vErr k) (zOk k))) := by kernel_rfl
theorem y_D0_3 (re : KCB) (wi : KFFB) (no fin : KCB) (wh : KFB) (sub : KCCC) (div : KCCC) (scl : KCFC) (W : KW) (R : Type) a1 a2 s1 s2 z1 z2 (k : Value → Option R) :
  evFn (cxv Try.prog [(7, sEI (checkB re wi no wh)), (19, sCB re), (21, sCB no), (33, sCB fin), (14, sCCC sub), (62, sCCC div), (36, sCFC scl), (64, sKW W)]) 60 10 [el 3 a1 a2 s1 s2 4613937818241073152, .complex .f64 z1 z2] k =
    valP (checkB re wi no wh) re no sub 3 4613937818241073152 (fun x => x) a1 a2 s1 s2 z1 z2 (vErr k) (fun _ _ => vErr k 6) (fun d1 d2 => leafD div scl W none 3 s1 s2 d1 d2 (toldE fin (vErr k) (zOk k))) := by kernel_rfl
theorem y_D1_3 (re : KCB) (wi : KFFB) (no fin : KCB) (wh : KFB) (sub : KCCC) (div : KCCC) (scl : KCFC) (W : KW) (R : Type) a1 a2 s1 s2 z1 z2 (k : Value → Option R) :
  evFn (cxv Try.prog [(7, sEI (checkB re wi no wh)), (19, sCB re), (21, sCB no), (33, sCB fin), (14, sCCC sub), (62, sCCC div), (36, sCFC scl), (64, sKW W)]) 60 11 [el 3 a1 a2 s1 s2 4613937818241073152, .complex .f64 z1 z2] k =
    valP (checkB re wi no wh) re no sub 3 4613937818241073152 (fun x => x) a1 a2 s1 s2 z1 z2 (vErr k) (fun _ _ => vErr k 6) (fun d1 d2 => leafD div scl W (some 13837309855095848960) 4 s1 s2 d1 d2 (toldE fin (vErr k) (zOk k))) := by kernel_rfl
theorem y_D2_3 (re : KCB) (wi : KFFB) (no fin : KCB) (wh : KFB) (sub : KCCC) (div : KCCC) (scl : KCFC) (W : KW) (R : Type) a1 a2 s1 s2 z1 z2 (k : Value → Option R) :
  evFn (cxv Try.prog [(7, sEI (checkB re wi no wh)), (19, sCB re), (21, sCB no), (33, sCB fin), (14, sCCC sub), (62, sCCC div), (36, sCFC scl), (64, sKW W)]) 60 12 [el 3 a1 a2 s1 s2 4613937818241073152, .complex .f64 z1 z2] k =
    valP (checkB re wi no wh) re no sub 3 4613937818241073152 (fun x => x) a1 a2 s1 s2 z1 z2 (vErr k) (fun _ _ => vErr k 6) (fun d1 d2 => leafD div scl W (some 4622945017495814144) 5 s1 s2 d1 d2 (toldE fin (vErr k) (zOk k))) := by kernel_rfl
theorem y_D0_4 (re : KCB) (wi : KFFB) (no fin : KCB) (wh : KFB) (sub : KCCC) (div : KCCC) (scl : KCFC) (W : KW) (R : Type) a1 a2 s1 s2 z1 z2 (k : Value → Option R) :
  evFn (cxv Try.prog [(7, sEI (checkB re wi no wh)), (19, sCB re), (21, sCB no), (33, sCB fin), (14, sCCC sub), (62, sCCC div), (36, sCFC scl), (64, sKW W)]) 60 10 [el 3 a1 a2 s1 s2 4616189618054758400, .complex .f64 z1 z2] k =
    valP (checkB re wi no wh) re no sub 3 4616189618054758400 (fun x => x) a1 a2 s1 s2 z1 z2 (vErr k) (fun _ _ => vErr k 6) (fun d1 d2 => leafD div scl W none 4 s1 s2 d1 d2 (toldE fin (vErr k) (zOk k))) := by kernel_rfl
theorem y_D1_4 (re : KCB) (wi : KFFB) (no fin : KCB) (wh : KFB) (sub : KCCC) (div : KCCC) (scl : KCFC) (W : KW) (R : Type) a1 a2 s1 s2 z1 z2 (k : Value → Option R) :
  evFn (cxv Try.prog [(7, sEI (checkB re wi no wh)), (19, sCB re), (21, sCB no), (33, sCB fin), (14, sCCC sub), (62, sCCC div), (36, sCFC scl), (64, sKW W)]) 60 11 [el 3 a1 a2 s1 s2 4616189618054758400, .complex .f64 z1 z2] k =
    valP (checkB re wi no wh) re no sub 3 4616189618054758400 (fun x => x) a1 a2 s1 s2 z1 z2 (vErr k) (fun _ _ => vErr k 6) (fun d1 d2 => leafD div scl W (some 13839561654909534208) 5 s1 s2 d1 d2 (toldE fin (vErr k) (zOk k))) := by kernel_rfl
theorem y_D2_4 (re : KCB) (wi : KFFB) (no fin : KCB) (wh : KFB) (sub : KCCC) (div : KCCC) (scl : KCFC) (W : KW) (R : Type) a1 a2 s1 s2 z1 z2 (k : Value → Option R) :
  evFn (cxv Try.prog [(7, sEI (checkB re wi no wh)), (19, sCB re), (21, sCB no), (33, sCB fin), (14, sCCC sub), (62, sCCC div), (36, sCFC scl), (64, sKW W)]) 60 12 [el 3 a1 a2 s1 s2 4616189618054758400, .complex .f64 z1 z2] k =
    valP (checkB re wi no wh) re no sub 3 4616189618054758400 (fun x => x) a1 a2 s1 s2 z1 z2 (vErr k) (fun _ _ => vErr k 6) (fun d1 d2 => leafD div scl W (some 4626322717216342016) 6 s1 s2 d1 d2 (toldE fin (vErr k) (zOk k))) := by kernel_rfl
theorem y_D0_5 (re : KCB) (wi : KFFB) (no fin : KCB) (wh : KFB) (sub : KCCC) (div : KCCC) (scl : KCFC) (W : KW) (R : Type) a1 a2 s1 s2 z1 z2 (k : Value → Option R) :
  evFn (cxv Try.prog [(7, sEI (checkB re wi no wh)), (19, sCB re), (21, sCB no), (33, sCB fin), (14, sCCC sub), (62, sCCC div), (36, sCFC scl), (64, sKW W)]) 60 10 [el 3 a1 a2 s1 s2 4617315517961601024, .complex .f64 z1 z2] k =
    valP (checkB re wi no wh) re no sub 3 4617315517961601024 (fun x => x) a1 a2 s1 s2 z1 z2 (vErr k) (fun _ _ => vErr k 6) (fun d1 d2 => leafD div scl W none 5 s1 s2 d1 d2 (toldE fin (vErr k) (zOk k))) := by kernel_rfl
theorem y_D1_5 (re : KCB) (wi : KFFB) (no fin : KCB) (wh : KFB) (sub : KCCC) (div : KCCC) (scl : KCFC) (W : KW) (R : Type) a1 a2 s1 s2 z1 z2 (k : Value → Option R) :
  evFn (cxv Try.prog [(7, sEI (checkB re wi no wh)), (19, sCB re), (21, sCB no), (33, sCB fin), (14, sCCC sub), (62, sCCC div), (36, sCFC scl), (64, sKW W)]) 60 11 [el 3 a1 a2 s1 s2 4617315517961601024, .complex .f64 z1 z2] k =
    valP (checkB re wi no wh) re no sub 3 4617315517961601024 (fun x => x) a1 a2 s1 s2 z1 z2 (vErr k) (fun _ _ => vErr k 6) (fun d1 d2 => leafD div scl W (some 13840687554816376832) 6 s1 s2 d1 d2 (toldE fin (vErr k) (zOk k))) := by kernel_rfl
theorem y_D2_5 (re : KCB) (wi : KFFB) (no fin : KCB) (wh : KFB) (sub : KCCC) (div : KCCC) (scl : KCFC) (W : KW) (R : Type) a1 a2 s1 s2 z1 z2 (k : Value → Option R) :
  evFn (cxv Try.prog [(7, sEI (checkB re wi no wh)), (19, sCB re), (21, sCB no), (33, sCB fin), (14, sCCC sub), (62, sCCC div), (36, sCFC scl), (64, sKW W)]) 60 12 [el 3 a1 a2 s1 s2 4617315517961601024, .complex .f64 z1 z2] k =
    valP (checkB re wi no wh) re no sub 3 4617315517961601024 (fun x => x) a1 a2 s1 s2 z1 z2 (vErr k) (fun _ _ => vErr k 6) (fun d1 d2 => leafD div scl W (some 4629137466983448576) 7 s1 s2 d1 d2 (toldE fin (vErr k) (zOk k))) := by kernel_rfl
theorem y_D0_6 (re : KCB) (wi : KFFB) (no fin : KCB) (wh : KFB) (sub : KCCC) (div : KCCC) (scl : KCFC) (W : KW) (R : Type) a1 a2 s1 s2 z1 z2 (k : Value → Option R) :
  evFn (cxv Try.prog [(7, sEI (checkB re wi no wh)), (19, sCB re), (21, sCB no), (33, sCB fin), (14, sCCC sub), (62, sCCC div), (36, sCFC scl), (64, sKW W)]) 60 10 [el 3 a1 a2 s1 s2 4618441417868443648, .complex .f64 z1 z2] k =
    valP (checkB re wi no wh) re no sub 3 4618441417868443648 (fun x => x) a1 a2 s1 s2 z1 z2 (vErr k) (fun _ _ => vErr k 6) (fun d1 d2 => leafD div scl W none 6 s1 s2 d1 d2 (toldE fin (vErr k) (zOk k))) := by kernel_rfl
theorem y_D1_6 (re : KCB) (wi : KFFB) (no fin : KCB) (wh : KFB) (sub : KCCC) (div : KCCC) (scl : KCFC) (W : KW) (R : Type) a1 a2 s1 s2 z1 z2 (k : Value → Option R) :
  evFn (cxv Try.prog [(7, sEI (checkB re wi no wh)), (19, sCB re), (21, sCB no), (33, sCB fin), (14, sCCC sub), (62, sCCC div), (36, sCFC scl), (64, sKW W)]) 60 11 [el 3 a1 a2 s1 s2 4618441417868443648, .complex .f64 z1 z2] k =
    valP (checkB re wi no wh) re no sub 3 4618441417868443648 (fun x => x) a1 a2 s1 s2 z1 z2 (vErr k) (fun _ _ => vErr k 6) (fun d1 d2 => leafD div scl W (some 13841813454723219456) 7 s1 s2 d1 d2 (toldE fin (vErr k) (zOk k))) := by kernel_rfl
theorem y_D2_6 (re : KCB) (wi : KFFB) (no fin : KCB) (wh : KFB) (sub : KCCC) (div : KCCC) (scl : KCFC) (W : KW) (R : Type) a1 a2 s1 s2 z1 z2 (k : Value → Option R) :
  evFn (cxv Try.prog [(7, sEI (checkB re wi no wh)), (19, sCB re), (21, sCB no), (33, sCB fin), (14, sCCC sub), (62, sCCC div), (36, sCFC scl), (64, sKW W)]) 60 12 [el 3 a1 a2 s1 s2 4618441417868443648, .complex .f64 z1 z2] k =
    valP (checkB re wi no wh) re no sub 3 4618441417868443648 (fun x => x) a1 a2 s1 s2 z1 z2 (vErr k) (fun _ _ => vErr k 6) (fun d1 d2 => leafD div scl W (some 4631107791820423168) 8 s1 s2 d1 d2 (toldE fin (vErr k) (zOk k))) := by kernel_rfl
theorem y_D0_7 (re : KCB) (wi : KFFB) (no fin : KCB) (wh : KFB) (sub : KCCC) (div : KCCC) (scl : KCFC) (W : KW) (R : Type) a1 a2 s1 s2 z1 z2 (k : Value → Option R) :
  evFn (cxv Try.prog [(7, sEI (checkB re wi no wh)), (19, sCB re), (21, sCB no), (33, sCB fin), (14, sCCC sub), (62, sCCC div), (36, sCFC scl), (64, sKW W)]) 60 10 [el 3 a1 a2 s1 s2 4619567317775286272, .complex .f64 z1 z2] k =
    valP (checkB re wi no wh) re no sub 3 4619567317775286272 (fun x => x) a1 a2 s1 s2 z1 z2 (vErr k) (fun _ _ => vErr k 6) (fun d1 d2 => leafD div scl W none 7 s1 s2 d1 d2 (toldE fin (vErr k) (zOk k))) := by kernel_rfl
theorem y_D1_7 (re : KCB) (wi : KFFB) (no fin : KCB) (wh : KFB) (sub : KCCC) (div : KCCC) (scl : KCFC) (W : KW) (R : Type) a1 a2 s1 s2 z1 z2 (k : Value → Option R) :
  evFn (cxv Try.prog [(7, sEI (checkB re wi no wh)), (19, sCB re), (21, sCB no), (33, sCB fin), (14, sCCC sub), (62, sCCC div), (36, sCFC scl), (64, sKW W)]) 60 11 [el 3 a1 a2 s1 s2 4619567317775286272, .complex .f64 z1 z2] k =
    valP (checkB re wi no wh) re no sub 3 4619567317775286272 (fun x => x) a1 a2 s1 s2 z1 z2 (vErr k) (fun _ _ => vErr k 6) (fun d1 d2 => leafD div scl W (some 13842939354630062080) 8 s1 s2 d1 d2 (toldE fin (vErr k) (zOk k))) := by kernel_rfl
theorem y_D2_7 (re : KCB) (wi : KFFB) (no fin : KCB) (wh : KFB) (sub : KCCC) (div : KCCC) (scl : KCFC) (W : KW) (R : Type) a1 a2 s1 s2 z1 z2 (k : Value → Option R) :
  evFn (cxv Try.prog [(7, sEI (checkB re wi no wh)), (19, sCB re), (21, sCB no), (33, sCB fin), (14, sCCC sub), (62, sCCC div), (36, sCFC scl), (64, sKW W)]) 60 12 [el 3 a1 a2 s1 s2 4619567317775286272, .complex .f64 z1 z2] k =
    valP (checkB re wi no wh) re no sub 3 4619567317775286272 (fun x => x) a1 a2 s1 s2 z1 z2 (vErr k) (fun _ _ => vErr k 6) (fun d1 d2 => leafD div scl W (some 4633078116657397760) 9 s1 s2 d1 d2 (toldE fin (vErr k) (zOk k))) := by kernel_rfl
theorem y_D0_8 (re : KCB) (wi : KFFB) (no fin : KCB) (wh : KFB) (sub : KCCC) (div : KCCC) (scl : KCFC) (W : KW) (R : Type) a1 a2 s1 s2 z1 z2 (k : Value → Option R) :
  evFn (cxv Try.prog [(7, sEI (checkB re wi no wh)), (19, sCB re), (21, sCB no), (33, sCB fin), (14, sCCC sub), (62, sCCC div), (36, sCFC scl), (64, sKW W)]) 60 10 [el 3 a1 a2 s1 s2 4620693217682128896, .complex .f64 z1 z2] k =
    valP (checkB re wi no wh) re no sub 3 4620693217682128896 (fun x => x) a1 a2 s1 s2 z1 z2 (vErr k) (fun _ _ => vErr k 6) (fun d1 d2 => leafD div scl W none 8 s1 s2 d1 d2 (toldE fin (vErr k) (zOk k))) := by kernel_rfl
theorem y_D1_8 (re : KCB) (wi : KFFB) (no fin : KCB) (wh : KFB) (sub : KCCC) (div : KCCC) (scl : KCFC) (W : KW) (R : Type) a1 a2 s1 s2 z1 z2 (k : Value → Option R) :
  evFn (cxv Try.prog [(7, sEI (checkB re wi no wh)), (19, sCB re), (21, sCB no), (33, sCB fin), (14, sCCC sub), (62, sCCC div), (36, sCFC scl), (64, sKW W)]) 60 11 [el 3 a1 a2 s1 s2 4620693217682128896, .complex .f64 z1 z2] k =
    valP (checkB re wi no wh) re no sub 3 4620693217682128896 (fun x => x) a1 a2 s1 s2 z1 z2 (vErr k) (fun _ _ => vErr k 6) (fun d1 d2 => leafD div scl W (some 13844065254536904704) 9 s1 s2 d1 d2 (toldE fin (vErr k) (zOk k))) := by kernel_rfl
theorem y_D2_8 (re : KCB) (wi : KFFB) (no fin : KCB) (wh : KFB) (sub : KCCC) (div : KCCC) (scl : KCFC) (W : KW) (R : Type) a1 a2 s1 s2 z1 z2 (k : Value → Option R) :
  evFn (cxv Try.prog [(7, sEI (checkB re wi no wh)), (19, sCB re), (21, sCB no), (33, sCB fin), (14, sCCC sub), (62, sCCC div), (36, sCFC scl), (64, sKW W)]) 60 12 [el 3 a1 a2 s1 s2 4620693217682128896, .complex .f64 z1 z2] k =
    valP (checkB re wi no wh) re no sub 3 4620693217682128896 (fun x => x) a1 a2 s1 s2 z1 z2 (vErr k) (fun _ _ => vErr k 6) (fun d1 d2 => leafD div scl W (some 4634766966517661696) 10 s1 s2 d1 d2 (toldE fin (vErr k) (zOk k))) := by kernel_rfl
theorem y_C0_1 (re : KCB) (wi : KFFB) (no fin : KCB) (wh : KFB) (sub : KCCC) (mul : KCCC) (scl : KCFC) (W : KW) (wy : ∀ R : Type, Nat → Option R → Option R) (R : Type) a1 a2 s1 s2 z1 z2 (k : Value → Option R) :
  evFn (cxv Try.prog [(7, sEI (checkB re wi no wh)), (19, sCB re), (21, sCB no), (33, sCB fin), (14, sCCC sub), (15, sCCC mul), (36, sCFC scl), (64, sKW W), (22, sWhY wy)]) 60 10 [el 4 a1 a2 s1 s2 4607182418800017408, .complex .f64 z1 z2] k =
    valP (checkB re wi no wh) re no sub 4 4607182418800017408 (wy R 4607182418800017408) a1 a2 s1 s2 z1 z2 (vErr k) (fun d1 d2 => leafC mul scl W none 1 s1 s2 d1 d2 (toldE fin (vErr k) (zOk k))) (fun d1 d2 => leafC mul scl W none 1 s1 s2 d1 d2 (toldE fin (vErr k) (zOk k))) := by kernel_rfl
theorem y_C1_1 (re : KCB) (wi : KFFB) (no fin : KCB) (wh : KFB) (sub : KCCC) (mul : KCCC) (scl : KCFC) (W : KW) (wy : ∀ R : Type, Nat → Option R → Option R) (R : Type) a1 a2 s1 s2 z1 z2 (k : Value → Option R) :
  evFn (cxv Try.prog [(7, sEI (checkB re wi no wh)), (19, sCB re), (21, sCB no), (33, sCB fin), (14, sCCC sub), (15, sCCC mul), (36, sCFC scl), (64, sKW W), (22, sWhY wy)]) 60 11 [el 4 a1 a2 s1 s2 4607182418800017408, .complex .f64 z1 z2] k =
    valP (checkB re wi no wh) re no sub 4 4607182418800017408 (wy R 4607182418800017408) a1 a2 s1 s2 z1 z2 (vErr k) (fun d1 d2 => leafC mul scl W (some 4607182418800017408) 0 s1 s2 d1 d2 (toldE fin (vErr k) (zOk k))) (fun d1 d2 => leafC mul scl W (some 4607182418800017408) 0 s1 s2 d1 d2 (toldE fin (vErr k) (zOk k))) := by kernel_rfl
theorem y_C2_1 (re : KCB) (wi : KFFB) (no fin : KCB) (wh : KFB) (sub : KCCC) (mul : KCCC) (scl : KCFC) (W : KW) (wy : ∀ R : Type, Nat → Option R → Option R) (R : Type) a1 a2 s1 s2 z1 z2 (k : Value → Option R) :
  evFn (cxv Try.prog [(7, sEI (checkB re wi no wh)), (19, sCB re), (21, sCB no), (33, sCB fin), (14, sCCC sub), (15, sCCC mul), (36, sCFC scl), (64, sKW W), (22, sWhY wy)]) 60 12 [el 4 a1 a2 s1 s2 4607182418800017408, .complex .f64 z1 z2] k =
    valP (checkB re wi no wh) re no sub 4 4607182418800017408 (wy R 4607182418800017408) a1 a2 s1 s2 z1 z2 (vErr k) (fun d1 d2 => (toldE fin (vErr k) (zOk k)) 0 0) (fun d1 d2 => (toldE fin (vErr k) (zOk k)) 0 0) := by kernel_rfl
theorem y_C0_2 (re : KCB) (wi : KFFB) (no fin : KCB) (wh : KFB) (sub : KCCC) (mul : KCCC) (scl : KCFC) (W : KW) (wy : ∀ R : Type, Nat → Option R → Option R) (R : Type) a1 a2 s1 s2 z1 z2 (k : Value → Option R) :
  evFn (cxv Try.prog [(7, sEI (checkB re wi no wh)), (19, sCB re), (21, sCB no), (33, sCB fin), (14, sCCC sub), (15, sCCC mul), (36, sCFC scl), (64, sKW W), (22, sWhY wy)]) 60 10 [el 4 a1 a2 s1 s2 4611686018427387904, .complex .f64 z1 z2] k =
    valP (checkB re wi no wh) re no sub 4 4611686018427387904 (wy R 4611686018427387904) a1 a2 s1 s2 z1 z2 (vErr k) (fun d1 d2 => leafC mul scl W none 2 s1 s2 d1 d2 (toldE fin (vErr k) (zOk k))) (fun d1 d2 => leafC mul scl W none 2 s1 s2 d1 d2 (toldE fin (vErr k) (zOk k))) := by kernel_rfl
theorem y_C1_2 (re : KCB) (wi : KFFB) (no fin : KCB) (wh : KFB) (sub : KCCC) (mul : KCCC) (scl : KCFC) (W : KW) (wy : ∀ R : Type, Nat → Option R → Option R) (R : Type) a1 a2 s1 s2 z1 z2 (k : Value → Option R) :
  evFn (cxv Try.prog [(7, sEI (checkB re wi no wh)), (19, sCB re), (21, sCB no), (33, sCB fin), (14, sCCC sub), (15, sCCC mul), (36, sCFC scl), (64, sKW W), (22, sWhY wy)]) 60 11 [el 4 a1 a2 s1 s2 4611686018427387904, .complex .f64 z1 z2] k =
    valP (checkB re wi no wh) re no sub 4 4611686018427387904 (wy R 4611686018427387904) a1 a2 s1 s2 z1 z2 (vErr k) (fun d1 d2 => leafC mul scl W (some 4611686018427387904) 1 s1 s2 d1 d2 (toldE fin (vErr k) (zOk k))) (fun d1 d2 => leafC mul scl W (some 4611686018427387904) 1 s1 s2 d1 d2 (toldE fin (vErr k) (zOk k))) := by kernel_rfl
theorem y_C2_2 (re : KCB) (wi : KFFB) (no fin : KCB) (wh : KFB) (sub : KCCC) (mul : KCCC) (scl : KCFC) (W : KW) (wy : ∀ R : Type, Nat → Option R → Option R) (R : Type) a1 a2 s1 s2 z1 z2 (k : Value → Option R) :
  evFn (cxv Try.prog [(7, sEI (checkB re wi no wh)), (19, sCB re), (21, sCB no), (33, sCB fin), (14, sCCC sub), (15, sCCC mul), (36, sCFC scl), (64, sKW W), (22, sWhY wy)]) 60 12 [el 4 a1 a2 s1 s2 4611686018427387904, .complex .f64 z1 z2] k =
    valP (checkB re wi no wh) re no sub 4 4611686018427387904 (wy R 4611686018427387904) a1 a2 s1 s2 z1 z2 (vErr k) (fun d1 d2 => leafC mul scl W (some 4611686018427387904) 0 s1 s2 d1 d2 (toldE fin (vErr k) (zOk k))) (fun d1 d2 => leafC mul scl W (some 4611686018427387904) 0 s1 s2 d1 d2 (toldE fin (vErr k) (zOk k))) := by kernel_rfl
theorem y_C0_3 (re : KCB) (wi : KFFB) (no fin : KCB) (wh : KFB) (sub : KCCC) (mul : KCCC) (scl : KCFC) (W : KW) (wy : ∀ R : Type, Nat → Option R → Option R) (R : Type) a1 a2 s1 s2 z1 z2 (k : Value → Option R) :
  evFn (cxv Try.prog [(7, sEI (checkB re wi no wh)), (19, sCB re), (21, sCB no), (33, sCB fin), (14, sCCC sub), (15, sCCC mul), (36, sCFC scl), (64, sKW W), (22, sWhY wy)]) 60 10 [el 4 a1 a2 s1 s2 4613937818241073152, .complex .f64 z1 z2] k =
    valP (checkB re wi no wh) re no sub 4 4613937818241073152 (wy R 4613937818241073152) a1 a2 s1 s2 z1 z2 (vErr k) (fun d1 d2 => leafC mul scl W none 3 s1 s2 d1 d2 (toldE fin (vErr k) (zOk k))) (fun d1 d2 => leafC mul scl W none 3 s1 s2 d1 d2 (toldE fin (vErr k) (zOk k))) := by kernel_rfl
theorem y_C1_3 (re : KCB) (wi : KFFB) (no fin : KCB) (wh : KFB) (sub : KCCC) (mul : KCCC) (scl : KCFC) (W : KW) (wy : ∀ R : Type, Nat → Option R → Option R) (R : Type) a1 a2 s1 s2 z1 z2 (k : Value → Option R) :
  evFn (cxv Try.prog [(7, sEI (checkB re wi no wh)), (19, sCB re), (21, sCB no), (33, sCB fin), (14, sCCC sub), (15, sCCC mul), (36, sCFC scl), (64, sKW W), (22, sWhY wy)]) 60 11 [el 4 a1 a2 s1 s2 4613937818241073152, .complex .f64 z1 z2] k =
    valP (checkB re wi no wh) re no sub 4 4613937818241073152 (wy R 4613937818241073152) a1 a2 s1 s2 z1 z2 (vErr k) (fun d1 d2 => leafC mul scl W (some 4613937818241073152) 2 s1 s2 d1 d2 (toldE fin (vErr k) (zOk k))) (fun d1 d2 => leafC mul scl W (some 4613937818241073152) 2 s1 s2 d1 d2 (toldE fin (vErr k) (zOk k))) := by kernel_rfl
theorem y_C2_3 (re : KCB) (wi : KFFB) (no fin : KCB) (wh : KFB) (sub : KCCC) (mul : KCCC) (scl : KCFC) (W : KW) (wy : ∀ R : Type, Nat → Option R → Option R) (R : Type) a1 a2 s1 s2 z1 z2 (k : Value → Option R) :
  evFn (cxv Try.prog [(7, sEI (checkB re wi no wh)), (19, sCB re), (21, sCB no), (33, sCB fin), (14, sCCC sub), (15, sCCC mul), (36, sCFC scl), (64, sKW W), (22, sWhY wy)]) 60 12 [el 4 a1 a2 s1 s2 4613937818241073152, .complex .f64 z1 z2] k =
    valP (checkB re wi no wh) re no sub 4 4613937818241073152 (wy R 4613937818241073152) a1 a2 s1 s2 z1 z2 (vErr k) (fun d1 d2 => leafC mul scl W (some 4618441417868443648) 1 s1 s2 d1 d2 (toldE fin (vErr k) (zOk k))) (fun d1 d2 => leafC mul scl W (some 4618441417868443648) 1 s1 s2 d1 d2 (toldE fin (vErr k) (zOk k))) := by kernel_rfl
theorem y_C0_4 (re : KCB) (wi : KFFB) (no fin : KCB) (wh : KFB) (sub : KCCC) (mul : KCCC) (scl : KCFC) (W : KW) (wy : ∀ R : Type, Nat → Option R → Option R) (R : Type) a1 a2 s1 s2 z1 z2 (k : Value → Option R) :
  evFn (cxv Try.prog [(7, sEI (checkB re wi no wh)), (19, sCB re), (21, sCB no), (33, sCB fin), (14, sCCC sub), (15, sCCC mul), (36, sCFC scl), (64, sKW W), (22, sWhY wy)]) 60 10 [el 4 a1 a2 s1 s2 4616189618054758400, .complex .f64 z1 z2] k =
    valP (checkB re wi no wh) re no sub 4 4616189618054758400 (wy R 4616189618054758400) a1 a2 s1 s2 z1 z2 (vErr k) (fun d1 d2 => leafC mul scl W none 4 s1 s2 d1 d2 (toldE fin (vErr k) (zOk k))) (fun d1 d2 => leafC mul scl W none 4 s1 s2 d1 d2 (toldE fin (vErr k) (zOk k))) := by kernel_rfl
theorem y_C1_4 (re : KCB) (wi : KFFB) (no fin : KCB) (wh : KFB) (sub : KCCC) (mul : KCCC) (scl : KCFC) (W : KW) (wy : ∀ R : Type, Nat → Option R → Option R) (R : Type) a1 a2 s1 s2 z1 z2 (k : Value → Option R) :
  evFn (cxv Try.prog [(7, sEI (checkB re wi no wh)), (19, sCB re), (21, sCB no), (33, sCB fin), (14, sCCC sub), (15, sCCC mul), (36, sCFC scl), (64, sKW W), (22, sWhY wy)]) 60 11 [el 4 a1 a2 s1 s2 4616189618054758400, .complex .f64 z1 z2] k =
    valP (checkB re wi no wh) re no sub 4 4616189618054758400 (wy R 4616189618054758400) a1 a2 s1 s2 z1 z2 (vErr k) (fun d1 d2 => leafC mul scl W (some 4616189618054758400) 3 s1 s2 d1 d2 (toldE fin (vErr k) (zOk k))) (fun d1 d2 => leafC mul scl W (some 4616189618054758400) 3 s1 s2 d1 d2 (toldE fin (vErr k) (zOk k))) := by kernel_rfl
theorem y_C2_4 (re : KCB) (wi : KFFB) (no fin : KCB) (wh : KFB) (sub : KCCC) (mul : KCCC) (scl : KCFC) (W : KW) (wy : ∀ R : Type, Nat → Option R → Option R) (R : Type) a1 a2 s1 s2 z1 z2 (k : Value → Option R) :
  evFn (cxv Try.prog [(7, sEI (checkB re wi no wh)), (19, sCB re), (21, sCB no), (33, sCB fin), (14, sCCC sub), (15, sCCC mul), (36, sCFC scl), (64, sKW W), (22, sWhY wy)]) 60 12 [el 4 a1 a2 s1 s2 4616189618054758400, .complex .f64 z1 z2] k =
    valP (checkB re wi no wh) re no sub 4 4616189618054758400 (wy R 4616189618054758400) a1 a2 s1 s2 z1 z2 (vErr k) (fun d1 d2 => leafC mul scl W (some 4622945017495814144) 2 s1 s2 d1 d2 (toldE fin (vErr k) (zOk k))) (fun d1 d2 => leafC mul scl W (some 4622945017495814144) 2 s1 s2 d1 d2 (toldE fin (vErr k) (zOk k))) := by kernel_rfl
theorem y_B0 (re : KCB) (wi : KFFB) (no fin : KCB) (wh : KFB) (sub : KCCC) (mul : KCCC) (scl real : KCFC) (wn : ∀ R : Type, Nat → Option R → Option R) (R : Type) a1 a2 s1 s2 p z1 z2 (k : Value → Option R) :
  evFn (cxv Try.prog [(7, sEI (checkB re wi no wh)), (19, sCB re), (21, sCB no), (33, sCB fin), (14, sCCC sub), (15, sCCC mul), (36, sCFC scl), (99, sCFC real), (22, sWhN wn)]) 60 10 [el 4 a1 a2 s1 s2 p, .complex .f64 z1 z2] k =
    valP (checkB re wi no wh) re no sub 4 p (wn R p) a1 a2 s1 s2 z1 z2 (vErr k) (fun _ _ => midB 0 p (vErr k)) (fun d1 d2 => leafB0 mul real p s1 s2 d1 d2 (toldE fin (vErr k) (zOk k))) := by kernel_rfl
theorem y_B1 (re : KCB) (wi : KFFB) (no fin : KCB) (wh : KFB) (sub : KCCC) (mul : KCCC) (scl real : KCFC) (wn : ∀ R : Type, Nat → Option R → Option R) (R : Type) a1 a2 s1 s2 p z1 z2 (k : Value → Option R) :
  evFn (cxv Try.prog [(7, sEI (checkB re wi no wh)), (19, sCB re), (21, sCB no), (33, sCB fin), (14, sCCC sub), (15, sCCC mul), (36, sCFC scl), (99, sCFC real), (22, sWhN wn)]) 60 11 [el 4 a1 a2 s1 s2 p, .complex .f64 z1 z2] k =
    valP (checkB re wi no wh) re no sub 4 p (wn R p) a1 a2 s1 s2 z1 z2 (vErr k) (fun _ _ => midB 4607182418800017408 p (vErr k)) (fun d1 d2 => leafB1 mul scl real p s1 s2 d1 d2 (toldE fin (vErr k) (zOk k))) := by kernel_rfl
theorem y_B2 (re : KCB) (wi : KFFB) (no fin : KCB) (wh : KFB) (sub : KCCC) (mul : KCCC) (scl real : KCFC) (wn : ∀ R : Type, Nat → Option R → Option R) (R : Type) a1 a2 s1 s2 p z1 z2 (k : Value → Option R) :
  evFn (cxv Try.prog [(7, sEI (checkB re wi no wh)), (19, sCB re), (21, sCB no), (33, sCB fin), (14, sCCC sub), (15, sCCC mul), (36, sCFC scl), (99, sCFC real), (22, sWhN wn)]) 60 12 [el 4 a1 a2 s1 s2 p, .complex .f64 z1 z2] k =
    valP (checkB re wi no wh) re no sub 4 p (wn R p) a1 a2 s1 s2 z1 z2 (vErr k) (fun _ _ => midB 4611686018427387904 p (vErr k)) (fun d1 d2 => leafB2 mul scl real p s1 s2 d1 d2 (toldE fin (vErr k) (zOk k))) := by kernel_rfl
end Go.Vm
namespace Go.Vm
open Go.Proofs
set_option linter.unusedVariables false
set_option maxRecDepth 1000000
theorem y_of (R : Type) x y (k : Value → Option R) : evFn (cx Try.prog []) 60 5 [gz x y] k = ofK x y fun a b => k (.complex .f64 a b) := by kernel_rfl
theorem y_same (R : Type) a b c d (k : Value → Option R) : evFn (cxf fiReal Try.prog [] [(26, xBits)]) 60 13 [.complex .f64 a b, .complex .f64 c d] k = sameB R a b c d fun t => k (.bool t) := by kernel_rfl
theorem y_moved (re : KCB) (wi : KFFB) (no : KCB) (wh : KFB) (add : KCCC) (R : Type) kind a1 a2 s1 s2 p b1 b2 (k : Value → Option R) :
  evFn (cx Try.prog [(7, sEI (checkB re wi no wh)), (19, sCB re), (9, sCCC add)]) 60 8 [el kind a1 a2 s1 s2 p, .complex .f64 b1 b2] k =
    movB (checkB re wi no wh) re add R kind a1 a2 s1 s2 p b1 b2 (fun e => k (.tuple ⟨[el 0 0 0 0 0 0, .int .i64 e]⟩)) (fun u1 u2 => k (.tuple ⟨[el kind u1 u2 s1 s2 p, .int .i64 0]⟩)) := by kernel_rfl
/-- Moved of which no error is answered by nought -/
def sMov2 (g : KMov) : Sum := fun R args k => match args with
  | [.agg ⟨[.int .u8 kind, .complex .f64 a1 a2, .complex .f64 s1 s2, .float .f64 p]⟩, .complex .f64 b1 b2] =>
    g R kind a1 a2 s1 s2 p b1 b2 (fun e => forceB (e != 0) fun t => match t with | true => k (.tuple ⟨[el 0 0 0 0 0 0, .int .i64 5]⟩) | false => none) (fun u1 u2 => k (.tuple ⟨[el kind u1 u2 s1 s2 p, .int .i64 0]⟩))
  | _ => none
theorem y_law (of : KGC) (sm : KGB) (re : KCB) (wi : KFFB) (no : KCB) (wh : KFB) (mov : KMov) (add sub mul : KCCC) (pot spd slp : KVal) (same : KCCB) (R : Type) kind x1 y1 x2 y2 x3 y3 x4 y4 p (k : Value → Option R) :
  evFn (cx Try.prog [(4, sTrueE), (5, sOf of), (6, sSm sm), (7, sEI (checkB re wi no wh)), (8, sMov2 mov), (9, sCCC add), (14, sCCC sub), (15, sCCC mul), (10, sVal pot), (11, sVal spd), (12, sVal slp), (13, sCCB same)]) 80 3 [.int .u8 kind, gz x1 y1, gz x2 y2, gz x3 y3, gz x4 y4, .float .f64 p] k =
    lawMB of sm (checkB re wi no wh) mov add sub mul pot spd slp same kind x1 y1 x2 y2 x3 y3 x4 y4 p fun t => k (.bool t) := by kernel_rfl
end Go.Vm
