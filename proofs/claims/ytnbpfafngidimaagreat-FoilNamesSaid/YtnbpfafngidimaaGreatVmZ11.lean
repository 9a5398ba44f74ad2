/- The program's functions of ChartThere compute what the Lean functions tell; no conditions. The program's ChartThere computes what the Lean function tells; no conditions. A call of ChartThere returns true and leaves alone what was there; no conditions. -/
import Derived.Test.YtnbpfafngidimaaGreatVmKF
import Derived.Test.YtnbpfafngidimaaGreatVmZ4
import Derived.Test.YtnbpfafngidimaaGreatVmP17
namespace Go.Vm
open Go.Proofs
set_option linter.unusedVariables false
set_option maxRecDepth 1000000
theorem z_inf0 (ab : KFF) (R : Type) a (k : Value → Option R) : evFn (cx Tryz.prog [(53, sFF ab)]) 20 112 [.float .f64 a, .int .i64 0] k = isInfB ab R a fun t => k (.bool t) := by kernel_rfl
theorem z_infP (ab : KFF) (R : Type) a (k : Value → Option R) : evFn (cx Tryz.prog [(53, sFF ab)]) 20 112 [.float .f64 a, .int .i64 1] k = isInfPK R a fun t => k (.bool t) := by kernel_rfl
theorem z_infM (ab : KFF) (R : Type) a (k : Value → Option R) : evFn (cx Tryz.prog [(53, sFF ab)]) 20 112 [.float .f64 a, .int .i64 (-1)] k = isInfMK R a fun t => k (.bool t) := by kernel_rfl
theorem z_Inf (R : Type) (k : Value → Option R) : evFn (cx Tryz.prog []) 40 113 [.int .i64 1] k = k (.float .f64 9218868437227405312) := by kernel_rfl
theorem z_scl (R : Type) a b c (k : Value → Option R) : evFn (cx Tryz.prog []) 20 39 [.complex .f64 a b, .float .f64 c] k = sclK R a b c fun x y => k (.complex .f64 x y) := by kernel_rfl
theorem z_edge (g0 gp gm nan : KFB) (cp : KFFF) (R : Type) a b (k : Value → Option R) : evFn (cx Tryz.prog [(113, sInfW), (112, sInf3 g0 gp gm), (114, sFB nan), (77, sFFF cp), (272, sNever), (55, sNever)]) 60 237 [.float .f64 a, .float .f64 b] k =
  edgeB g0 gp gm nan cp R a b fun x y t => k (.tuple ⟨[.complex .f64 x y, .bool t]⟩) := by kernel_rfl
theorem z_root (fi : Fi) (edge : KFFCB) (gr : KCF) (pa : KFFI) (sc : KFIF) (ab : KFF) (sq : KCF) (rt : KFF) (cp : KFFF) (R : Type) a b (k : Value → Option R) :
  evFn (cxf fi Tryz.prog [(237, sFFCB edge), (115, sCF gr), (200, sFFI pa), (117, sFIF sc), (53, sFF ab), (119, sCF sq), (118, sFF rt), (77, sFFF cp)] []) 60 188 [.complex .f64 a b] k =
  rootB fi edge gr pa sc ab sq rt cp R a b fun x y => k (.complex .f64 x y) := by kernel_rfl
theorem z_sqr (mul : KCCC) (R : Type) m (k : Value → Option R) : evFn (cx Tryz.prog [(22, sCCC mul)]) 20 181 [mv 2 m] k = sqrB mul R m fun x y => k (.complex .f64 x y) := by kernel_rfl
theorem z_jouk (no : KCB) (sqr : KMC) (div add : KCCC) (R : Type) m a b (k : Value → Option R) : evFn (cx Tryz.prog [(81, sCB no), (181, sM2C sqr), (179, sCCC div), (84, sCCC add)]) 30 90 [mv 2 m, .complex .f64 a b] k =
  joukB no sqr div add R m a b (zErrL [6] k) (zOk k) := by kernel_rfl
theorem z_mback (no : KCB) (mul sub div : KCCC) (R : Type) m a b (k : Value → Option R) : evFn (cx Tryz.prog [(81, sCB no), (22, sCCC mul), (21, sCCC sub), (179, sCCC div)]) 30 98 [mv 1 m, .complex .f64 a b] k =
  moebBackB no mul sub div R m a b (zErrL [181] k) (zOk k) := by kernel_rfl
theorem z_jback (scl : KCFC) (mul sub add : KCCC) (neg root : KCC) (R : Type) m a b (k : Value → Option R) :
  evFn (cx Tryz.prog [(39, sCFC scl), (22, sCCC mul), (21, sCCC sub), (84, sCCC add), (86, sCC neg), (188, sCC root)]) 40 99 [mv 2 m, .complex .f64 a b] k =
  joukBackB scl mul sub add neg root R m a b (zErrL [] k) (zOk k) := by kernel_rfl
theorem z_jother (jb : KMZ) (sqr : KMC) (div : KCCC) (R : Type) m a b (k : Value → Option R) :
  evFn (cx Tryz.prog [(99, sMZL [] 2 jb), (181, sM2C sqr), (179, sCCC div)]) 40 95 [mv 2 m, .complex .f64 a b] k =
  joukOtherB jb sqr div R m a b (zErrL [] k) (zOk k) := by kernel_rfl
end Go.Vm
namespace Go.Vm
open Go.Proofs
set_option linter.unusedVariables false
set_option maxRecDepth 1000000
theorem z_at2 (c1 c2 : KMI) (pl : KCB) (jo : KMZ) (fin : KCB) (R : Type) m a b (k : Value → Option R) : evFn (cx Tryz.prog [(17, sChk c1 c2), (79, sCB pl), (90, sMZL [6] 2 jo), (93, sCB fin)]) 40 26 [mv 2 m, .complex .f64 a b] k =
   atLB [6] c2 pl jo fin R m a b (fun e => k (.tuple ⟨[.complex .f64 0 0, .int .i64 e]⟩)) (zOk k) := by kernel_rfl
theorem z_bk1 (c1 c2 : KMI) (pl : KCB) (mb : KMZ) (R : Type) m a b (k : Value → Option R) : evFn (cx Tryz.prog [(17, sChk c1 c2), (79, sCB pl), (98, sMZL [181] 1 mb)]) 40 27 [mv 1 m, .complex .f64 a b, .bool false] k =
   atLB [181] c1 pl mb pl R m a b (fun e => k (.tuple ⟨[.complex .f64 0 0, .int .i64 e]⟩)) (zOk k) := by kernel_rfl
theorem z_bk2 (c1 c2 : KMI) (pl : KCB) (jb : KMZ) (R : Type) m a b (k : Value → Option R) : evFn (cx Tryz.prog [(17, sChk c1 c2), (79, sCB pl), (99, sMZL [] 2 jb)]) 40 27 [mv 2 m, .complex .f64 a b, .bool false] k =
   atLB [] c2 pl jb pl R m a b (fun e => k (.tuple ⟨[.complex .f64 0 0, .int .i64 e]⟩)) (zOk k) := by kernel_rfl
theorem z_bk3 (c1 c2 : KMI) (pl : KCB) (jo : KMZ) (R : Type) m a b (k : Value → Option R) : evFn (cx Tryz.prog [(17, sChk c1 c2), (79, sCB pl), (95, sMZL [] 2 jo)]) 40 27 [mv 2 m, .complex .f64 a b, .bool true] k =
   atLB [] c2 pl jo pl R m a b (fun e => k (.tuple ⟨[.complex .f64 0 0, .int .i64 e]⟩)) (zOk k) := by kernel_rfl
theorem z_thereLaw (up : KGB) (of_ : KGC) (small : KFrB) (fr : KFrM) (at1 at2 bk1 bk2 bk3 : KMZ) (near : KCCFB) (R : Type) f a p (k : Value → Option R) :
   evFn (cx Tryz.prog [(14, sTrue), (24, sUp up), (25, sOf of_), (16, sFrB small), (15, sFrM fr), (26, sAt at1 at2), (27, sBack bk1 bk2 bk3), (28, sCCFB near)]) 80 4 [fv f, gv a, gv p] k = thereLaw up of_ small fr at1 at2 bk1 bk2 bk3 near R f a p fun t => k (.bool t) := by kernel_rfl
end Go.Vm
namespace Go.Vm
open Go.Proofs
set_option linter.unusedVariables false
set_option maxRecDepth 1000000

def sBk (t : Bool) (kind : Int) (L : List Int) (g : KMZ) : Sum := fun R args k => match args with
  | [v, .complex .f64 a b, .bool u] => oneM v fun i m => bif u == t && i == kind then g R m a b (zErrL L k) (zOk k) else none
  | _ => none

section shapes
variable {P : Program} {l : List (Nat × Sum)} {n : Nat} {f : FuncId}
theorem SumOk.or {s s1 s2 : Sum} (h1 : SumOk P f s1) (h2 : SumOk P f s2) (h : ∀ (R : Type) (args : List Value) (k : Value → Option R) (r : R), s R args k = some r → s1 R args k = some r ∨ s2 R args k = some r) : SumOk P f s := by
  intro R args k r hr
  rcases h R args k r hr with g | g
  · exact h1 R args k r g
  · exact h2 R args k r g
theorem ok_sInf1 {s : Int} {g : KFB} (hm : P.follows .mixedOrders = true) (h : AllOk P l)
    (hg : ∀ (R : Type) a (k : Value → Option R), evFn (cx P l) n f [.float .f64 a, .int .i64 s] k = g R a fun t => k (.bool t)) :
    SumOk P f (fun R args k => match args with
      | [.float .f64 a, .int .i64 u] => bif u == s then g R a fun t => forceB t fun t => k (.bool t) else none
      | _ => none) :=
  sumOk_of hm h (n := n) fun R args k r hr => by
    split at hr
    · rename_i a u
      cases hi : (u == s) with
      | false => rw [hi] at hr; cases hr
      | true =>
        rw [hi] at hr
        have : u = s := by simpa using hi
        subst this
        exact ⟨rfl, by rw [hg]; simpa only [forceB_eq, cond_true] using hr⟩
    · cases hr
theorem ok_sInfW (hm : P.follows .mixedOrders = true) (h : AllOk P l)
    (hg : ∀ (R : Type) (k : Value → Option R), evFn (cx P l) n f [.int .i64 1] k = k (.float .f64 9218868437227405312)) : SumOk P f sInfW :=
  sumOk_of hm h (n := n) fun R args k r hr => by
    unfold sInfW at hr; split at hr
    · rename_i u
      cases hi : (u == 1) with
      | false => rw [hi] at hr; cases hr
      | true =>
        rw [hi] at hr
        have : u = 1 := by simpa using hi
        subst this
        exact ⟨rfl, by rw [hg]; exact hr⟩
    · cases hr
theorem ok_sFFCB {g : KFFCB} (hm : P.follows .mixedOrders = true) (h : AllOk P l)
    (hg : ∀ (R : Type) a b (k : Value → Option R), evFn (cx P l) n f [.float .f64 a, .float .f64 b] k = g R a b fun x y t => k (.tuple ⟨[.complex .f64 x y, .bool t]⟩)) : SumOk P f (sFFCB g) :=
  sumOk_of hm h (n := n) fun R args k r hr => by
    unfold sFFCB at hr; split at hr
    · exact ⟨rfl, by rw [hg]; simpa only [forceB_eq] using hr⟩
    · cases hr
theorem ok_sCFC {g : KCFC} (hm : P.follows .mixedOrders = true) (h : AllOk P l)
    (hg : ∀ (R : Type) a b c (k : Value → Option R), evFn (cx P l) n f [.complex .f64 a b, .float .f64 c] k = g R a b c fun x y => k (.complex .f64 x y)) : SumOk P f (sCFC g) :=
  sumOk_of hm h (n := n) fun R args k r hr => by
    unfold sCFC at hr; split at hr
    · exact ⟨rfl, by rw [hg]; exact hr⟩
    · cases hr
theorem ok_sM2C {g : KMC} (hm : P.follows .mixedOrders = true) (h : AllOk P l)
    (hg : ∀ (R : Type) (m : Mp) (k : Value → Option R), evFn (cx P l) n f [mv 2 m] k = g R m fun x y => k (.complex .f64 x y)) : SumOk P f (sM2C g) :=
  sumOk_of hm h (n := n) fun R args k r hr => by
    unfold sM2C at hr; split at hr
    · obtain ⟨i, m, rfl, hx⟩ := oneM_some hr
      cases hi : (i == 2) with
      | false => rw [hi] at hx; cases hx
      | true =>
        rw [hi] at hx
        have : i = 2 := by simpa using hi
        subst this
        exact ⟨rfl, by rw [hg]; exact hx⟩
    · cases hr
theorem ok_sMZL {L : List Int} {kind : Int} {g : KMZ} (hm : P.follows .mixedOrders = true) (h : AllOk P l)
    (hg : ∀ (R : Type) (m : Mp) a b (k : Value → Option R), evFn (cx P l) n f [mv kind m, .complex .f64 a b] k = g R m a b (zErrL L k) (zOk k)) : SumOk P f (sMZL L kind g) :=
  sumOk_of hm h (n := n) fun R args k r hr => by
    unfold sMZL at hr; split at hr
    · obtain ⟨i, m, rfl, hx⟩ := oneM_some hr
      cases hi : (i == kind) with
      | false => rw [hi] at hx; cases hx
      | true =>
        rw [hi] at hx
        have : i = kind := by simpa using hi
        subst this
        exact ⟨rfl, by rw [hg]; exact hx⟩
    · cases hr
theorem ok_sBk {t : Bool} {L : List Int} {kind : Int} {g : KMZ} (hm : P.follows .mixedOrders = true) (h : AllOk P l)
    (hg : ∀ (R : Type) (m : Mp) a b (k : Value → Option R), evFn (cx P l) n f [mv kind m, .complex .f64 a b, .bool t] k = g R m a b (zErrL L k) (zOk k)) : SumOk P f (sBk t kind L g) :=
  sumOk_of hm h (n := n) fun R args k r hr => by
    unfold sBk at hr; split at hr
    · rename_i u
      obtain ⟨i, m, rfl, hx⟩ := oneM_some hr
      cases hi : (u == t && i == kind) with
      | false => rw [hi] at hx; cases hx
      | true =>
        rw [hi] at hx
        obtain ⟨rfl, rfl⟩ : u = t ∧ i = kind := by simpa using hi
        exact ⟨rfl, by rw [hg]; exact hx⟩
    · cases hr
end shapes

theorem chk2_told (pl no : KCB) (wi : KFFB) (R : Type) (m : Mp) (F : Int → Option R) : chk2B pl no wi R m F = chk2B pl no wi R m (fun e => errIn [0, 5, 180] e F) := by kernel_rfl
theorem atL_told6 {chk : KMI} (pl : KCB) (mo : KMZ) (fin : KCB) (hc : ∀ (R : Type) (m : Mp) (F : Int → Option R), chk R m F = chk R m (fun e => errIn [0, 5, 180] e F))
    (R : Type) (m : Mp) (a b : Nat) (k : Value → Option R) (kk : Nat → Nat → Option R) :
    atLB [6] chk pl mo fin R m a b (zErrL [5, 6, 180] k) kk = atLB [6] chk pl mo fin R m a b (fun e => k (.tuple ⟨[.complex .f64 0 0, .int .i64 e]⟩)) kk := by
  unfold atLB
  rw [hc]
  refine Eq.trans ?_ (hc R m _).symm
  congr 1
theorem atL_told181 {chk : KMI} (pl : KCB) (mo : KMZ) (fin : KCB) (hc : ∀ (R : Type) (m : Mp) (F : Int → Option R), chk R m F = chk R m (fun e => errIn [0, 5, 180] e F))
    (R : Type) (m : Mp) (a b : Nat) (k : Value → Option R) (kk : Nat → Nat → Option R) :
    atLB [181] chk pl mo fin R m a b (zErrL [5, 6, 180, 181] k) kk = atLB [181] chk pl mo fin R m a b (fun e => k (.tuple ⟨[.complex .f64 0 0, .int .i64 e]⟩)) kk := by
  unfold atLB
  rw [hc]
  refine Eq.trans ?_ (hc R m _).symm
  congr 1
theorem atL_told0 {chk : KMI} (pl : KCB) (mo : KMZ) (fin : KCB) (hc : ∀ (R : Type) (m : Mp) (F : Int → Option R), chk R m F = chk R m (fun e => errIn [0, 5, 180] e F))
    (R : Type) (m : Mp) (a b : Nat) (k : Value → Option R) (kk : Nat → Nat → Option R) :
    atLB [] chk pl mo fin R m a b (zErrL [5, 6, 180] k) kk = atLB [] chk pl mo fin R m a b (fun e => k (.tuple ⟨[.complex .f64 0 0, .int .i64 e]⟩)) kk := by
  unfold atLB
  rw [hc]
  refine Eq.trans ?_ (hc R m _).symm
  congr 1
theorem chkK_told (R : Type) (m : Mp) (F : Int → Option R) : chkK R m F = chkK R m (fun e => errIn [0, 5, 180] e F) := chk1_told _ _ _ _ R m F
theorem chk2P_told (R : Type) (m : Mp) (F : Int → Option R) : chk2P R m F = chk2P R m (fun e => errIn [0, 5, 180] e F) := chk2_told _ _ _ R m F

theorem h237 : Has Tryz.prog 237 := ⟨Tryz.f237, _, Tryz.func237, by kernel_rfl, rfl⟩
theorem h272 : Has Tryz.prog 272 := ⟨Tryz.f272, _, Tryz.func272, by kernel_rfl, rfl⟩
theorem h188 : Has Tryz.prog 188 := ⟨Tryz.f188, _, Tryz.func188, by kernel_rfl, rfl⟩
theorem h39 : Has Tryz.prog 39 := ⟨Tryz.f39, _, Tryz.func39, by kernel_rfl, rfl⟩
theorem h181 : Has Tryz.prog 181 := ⟨Tryz.f181, _, Tryz.func181, by kernel_rfl, rfl⟩
theorem h90 : Has Tryz.prog 90 := ⟨Tryz.f90, _, Tryz.func90, by kernel_rfl, rfl⟩
theorem h98 : Has Tryz.prog 98 := ⟨Tryz.f98, _, Tryz.func98, by kernel_rfl, rfl⟩
theorem h99 : Has Tryz.prog 99 := ⟨Tryz.f99, _, Tryz.func99, by kernel_rfl, rfl⟩
theorem h95 : Has Tryz.prog 95 := ⟨Tryz.f95, _, Tryz.func95, by kernel_rfl, rfl⟩
theorem h27 : Has Tryz.prog 27 := ⟨Tryz.f27, _, Tryz.func27, by kernel_rfl, rfl⟩

theorem k112' : SumOk Tryz.prog 112 (sInf3 isInfK isInfPK isInfMK) := by
  intro R args k r hr
  unfold sInf3 at hr
  split at hr
  · rename_i a s
    cases h0 : (s == 0) with
    | true => exact ok_sInf1 zm_ok (.cons k53 h53 .nil) (z_inf0 absK) R _ k r (by rw [h0] at hr; show (bif s == 0 then _ else _) = _; rw [h0]; exact hr)
    | false =>
      cases h1 : (s == 1) with
      | true => exact ok_sInf1 zm_ok (.cons k53 h53 .nil) (z_infP absK) R _ k r (by rw [h0, h1] at hr; show (bif s == 1 then _ else _) = _; rw [h1]; exact hr)
      | false =>
        cases h2 : (s == -1) with
        | true => exact ok_sInf1 zm_ok (.cons k53 h53 .nil) (z_infM absK) R _ k r (by rw [h0, h1, h2] at hr; show (bif s == -1 then _ else _) = _; rw [h2]; exact hr)
        | false => rw [h0, h1, h2] at hr; cases hr
  · cases hr
theorem k113' : SumOk Tryz.prog 113 sInfW := ok_sInfW zm_ok .nil z_Inf
theorem k272 : SumOk Tryz.prog 272 sNever := ok_sNever
theorem k39 : SumOk Tryz.prog 39 (sCFC sclK) := ok_sCFC zm_ok .nil z_scl
theorem k237 : SumOk Tryz.prog 237 (sFFCB edgeK) := ok_sFFCB zm_ok (.cons k113' h113 (.cons k112' h112 (.cons k114 h114 (.cons k77 h77 (.cons k272 h272 (.cons k55 h55 .nil)))))) (z_edge _ _ _ _ _)
theorem k188 : SumOk Tryz.prog 188 (sCC rootK) :=
  ok_sCC zm_ok (.cons k237 h237 (.cons k115 h115 (.cons k200 h200 (.cons k117 h117 (.cons k53 h53 (.cons k119 h119 (.cons k118 h118 (.cons k77 h77 .nil)))))))) (z_root fiReal _ _ _ _ _ _ _ _)
theorem k181 : SumOk Tryz.prog 181 (sM2C sqrK) := ok_sM2C zm_ok (.cons k22 h22 .nil) (z_sqr _)
theorem k90 : SumOk Tryz.prog 90 (sMZL [6] 2 joukK) := ok_sMZL zm_ok (.cons k81 h81 (.cons k181 h181 (.cons k179 h179 (.cons k84 h84 .nil)))) (z_jouk _ _ _ _)
theorem k98 : SumOk Tryz.prog 98 (sMZL [181] 1 mbackK) := ok_sMZL zm_ok (.cons k81 h81 (.cons k22 h22 (.cons k21 h21 (.cons k179 h179 .nil)))) (z_mback _ _ _ _)
theorem k99 : SumOk Tryz.prog 99 (sMZL [] 2 jbackK) := ok_sMZL zm_ok (.cons k39 h39 (.cons k22 h22 (.cons k21 h21 (.cons k84 h84 (.cons k86 h86 (.cons k188 h188 .nil)))))) (z_jback _ _ _ _ _ _)
theorem k95 : SumOk Tryz.prog 95 (sMZL [] 2 jotherK) := ok_sMZL zm_ok (.cons k99 h99 (.cons k181 h181 (.cons k179 h179 .nil))) (z_jother _ _ _)
theorem k26b : SumOk Tryz.prog 26 (sMZL [5, 6, 180] 2 at2K) := ok_sMZL zm_ok (.cons k17 h17 (.cons k79 h79 (.cons k90 h90 (.cons k93 h93 .nil))))
  fun R m a b k => (z_at2 chkK chk2P placeK joukK FiniteK R m a b k).trans (atL_told6 placeK joukK FiniteK chk2P_told R m a b k (zOk k)).symm
theorem k27a : SumOk Tryz.prog 27 (sBk false 1 [5, 6, 180, 181] bk1K) := ok_sBk zm_ok (.cons k17 h17 (.cons k79 h79 (.cons k98 h98 .nil)))
  fun R m a b k => (z_bk1 chkK chk2P placeK mbackK R m a b k).trans (atL_told181 placeK mbackK placeK chkK_told R m a b k (zOk k)).symm
theorem k27b : SumOk Tryz.prog 27 (sBk false 2 [5, 6, 180] bk2K) := ok_sBk zm_ok (.cons k17 h17 (.cons k79 h79 (.cons k99 h99 .nil)))
  fun R m a b k => (z_bk2 chkK chk2P placeK jbackK R m a b k).trans (atL_told0 placeK jbackK placeK chk2P_told R m a b k (zOk k)).symm
theorem k27c : SumOk Tryz.prog 27 (sBk true 2 [5, 6, 180] bk3K) := ok_sBk zm_ok (.cons k17 h17 (.cons k79 h79 (.cons k95 h95 .nil)))
  fun R m a b k => (z_bk3 chkK chk2P placeK jotherK R m a b k).trans (atL_told0 placeK jotherK placeK chk2P_told R m a b k (zOk k)).symm

theorem k26c : SumOk Tryz.prog 26 (sAt atK at2K) := by
  intro R args k r hr
  unfold sAt at hr
  split at hr
  · rename_i v a b
    obtain ⟨i, m, rfl, hx⟩ := oneM_some hr
    cases h0 : (i == 1) with
    | true => exact k26 R _ k r (by rw [h0] at hx; show (bif i == 1 then _ else _) = _; rw [h0]; exact hx)
    | false =>
      cases h1 : (i == 2) with
      | true => exact k26b R _ k r (by rw [h0, h1] at hx; show (bif i == 2 then _ else _) = _; rw [h1]; exact hx)
      | false => rw [h0, h1] at hx; cases hx
  · cases hr
theorem k27 : SumOk Tryz.prog 27 (sBack bk1K bk2K bk3K) := by
  intro R args k r hr
  unfold sBack at hr
  split at hr
  · rename_i v a b t
    obtain ⟨i, m, rfl, hx⟩ := oneM_some hr
    cases t with
    | true =>
      cases h1 : (i == 2) with
      | true => exact k27c R _ k r (by simp only [h1] at hx; show (bif true == true && i == 2 then _ else _) = _; rw [h1]; exact hx)
      | false => simp only [h1] at hx; cases hx
    | false =>
      cases h0 : (i == 1) with
      | true => exact k27a R _ k r (by simp only [h0] at hx; show (bif false == false && i == 1 then _ else _) = _; rw [h0]; exact hx)
      | false =>
        cases h1 : (i == 2) with
        | true => exact k27b R _ k r (by simp only [h0, h1] at hx; show (bif false == false && i == 2 then _ else _) = _; rw [h1]; exact hx)
        | false => simp only [h0, h1] at hx; cases hx
  · cases hr

theorem there_calls (f : Fr) (a p : G2) (w : World) : Calls Tryz.prog 4 ⟨[fv f, gv a, gv p]⟩ w fun e w' => e = .returned (.bool true) ∧ RowKit.Below w.heap.size w w' := by
  have hall : AllOk Tryz.prog [(14, sTrue), (24, sUp upG), (25, sOf ofG), (16, sFrB smallK), (15, sFrM frK), (26, sAt atK at2K), (27, sBack bk1K bk2K bk3K), (28, sCCFB nearK)] :=
    .cons k14 h14 (.cons k24 h24 (.cons k25 h25 (.cons k16 h16 (.cons k15 h15 (.cons k26c h26 (.cons k27 h27 (.cons k28 h28 .nil)))))))
  have e : evFn (cx Tryz.prog [(14, sTrue), (24, sUp upG), (25, sOf ofG), (16, sFrB smallK), (15, sFrM frK), (26, sAt atK at2K), (27, sBack bk1K bk2K bk3K), (28, sCCFB nearK)]) 80 4 [fv f, gv a, gv p] (fun v => match v with | .bool true => some () | _ => none) = some () := by
    rw [z_thereLaw]
    exact thereLawK_true f a p _
  obtain ⟨v, h1, _, h2⟩ := evFn_sound (cx_ok hall) zm_ok e rfl
  have : v = .bool true := by
    split at h1
    · rfl
    · cases h1
  subst this
  exact h2 w
end Go.Vm
