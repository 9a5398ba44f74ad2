/- The program's functions of packages math and roots compute what the Lean functions tell; no conditions. The program's functions of ChartThree compute what the Lean functions tell; no conditions. The program's ChartThree computes what the Lean function tells; no conditions. A call of ChartThree returns true and leaves alone what was there; no conditions. The program's functions of ChartThere compute what the Lean functions tell; no conditions. The program's ChartThere computes what the Lean function tells; no conditions. A call of ChartThere returns true and leaves alone what was there; no conditions. -/
import Derived.Test.YtnbpfafngidimaaGreatVmLP
import Derived.Test.YtnbpfafngidimaaGreatProg
import Derived.Test.YtnbpfafngidimaaGreatVmKC
import Derived.Test.YtnbpfafngidimaaGreatVmP19
import Derived.Test.YtnbpfafngidimaaGreatVmP6
namespace Go.Vm
open Go.Proofs
set_option linter.unusedVariables false
set_option maxRecDepth 1000000
theorem z_isInf (ab : KFF) (R : Type) a (k : Value → Option R) : evFn (cx Tryz.prog [(53, sFF ab)]) 20 112 [.float .f64 a, .int .i64 0] k = isInfB ab R a fun t => k (.bool t) := by kernel_rfl
theorem z_isNan (R : Type) a (k : Value → Option R) : evFn (cx Tryz.prog []) 20 114 [.float .f64 a] k = isNanK R a fun t => k (.bool t) := by kernel_rfl
theorem z_norm (ab : KFF) (R : Type) a (k : Value → Option R) : evFn (cx Tryz.prog [(53, sFF ab)]) 20 275 [.float .f64 a] k = normB ab R a fun x e => k (.tuple ⟨[.float .f64 x, .int .i64 e]⟩) := by kernel_rfl
theorem z_frexp (fi : Fi) (inf nan : KFB) (nm : KFFI) (R : Type) a (k : Value → Option R) : evFn (cxf fi Tryz.prog [(112, sInf inf), (114, sFB nan), (275, sFFI nm)] []) 30 260 [.float .f64 a] k = frexpB fi inf nan nm R a fun x e => k (.tuple ⟨[.float .f64 x, .int .i64 e]⟩) := by kernel_rfl
theorem z_copy (R : Type) a b (k : Value → Option R) : evFn (cx Tryz.prog []) 30 77 [.float .f64 a, .float .f64 b] k = copyK R a b fun x => k (.float .f64 x) := by kernel_rfl
theorem z_ldexp (fi : Fi) (cp : KFFF) (inf nan : KFB) (nm : KFFI) (R : Type) a n (k : Value → Option R) : evFn (cxf fi Tryz.prog [(112, sInf inf), (114, sFB nan), (275, sFFI nm), (77, sFFF cp), (113, sNever)] []) 30 247 [.float .f64 a, .int .i64 n] k = ldexpB fi cp inf nan nm R a n fun x => k (.float .f64 x) := by kernel_rfl
theorem z_Frexp (fr : KFFI) (R : Type) a (k : Value → Option R) : evFn (cx Tryz.prog [(260, sFFI fr)]) 30 229 [.float .f64 a] k = fr R a fun x e => k (.tuple ⟨[.float .f64 x, .int .i64 e]⟩) := by kernel_rfl
theorem z_Ldexp (ld : KFIF) (R : Type) a n (k : Value → Option R) : evFn (cx Tryz.prog [(247, sFIF ld)]) 30 201 [.float .f64 a, .int .i64 n] k = ld R a n fun x => k (.float .f64 x) := by kernel_rfl
theorem z_Parts (fr : KFFI) (R : Type) a (k : Value → Option R) : evFn (cx Tryz.prog [(229, sFFI fr)]) 30 200 [.float .f64 a] k = fr R a fun x e => k (.tuple ⟨[.float .f64 x, .int .i64 e]⟩) := by kernel_rfl
theorem z_scale (ld : KFIF) (R : Type) a n (k : Value → Option R) : evFn (cx Tryz.prog [(201, sFIF ld)]) 30 117 [.float .f64 a, .int .i64 n] k = scaleB ld R a n fun x => k (.float .f64 x) := by kernel_rfl
theorem z_greatest (ab : KFF) (R : Type) a b (k : Value → Option R) : evFn (cx Tryz.prog [(53, sFF ab)]) 30 115 [.complex .f64 a b] k = greatestB ab R a b fun x => k (.float .f64 x) := by kernel_rfl
theorem z_scaled (gr : KCF) (pa : KFFI) (sc : KFIF) (R : Type) a b (k : Value → Option R) : evFn (cx Tryz.prog [(115, sCF gr), (200, sFFI pa), (117, sFIF sc)]) 30 116 [.complex .f64 a b] k = scaledB gr pa sc R a b fun x y e => k (.tuple ⟨[.complex .f64 x y, .int .i64 e]⟩) := by kernel_rfl
theorem z_square (R : Type) a b (k : Value → Option R) : evFn (cx Tryz.prog []) 30 119 [.complex .f64 a b] k = squareK R a b fun x => k (.float .f64 x) := by kernel_rfl
theorem z_length (inf nan : KFB) (gr : KCF) (sd : KCCI) (sq : KCF) (rt : KFF) (sc : KFIF) (R : Type) a b (k : Value → Option R) : evFn (cx Tryz.prog [(112, sInf inf), (114, sFB nan), (115, sCF gr), (116, sCCI sd), (119, sCF sq), (118, sFF rt), (117, sFIF sc), (113, sNever), (55, sNever)]) 30 38 [.complex .f64 a b] k = lengthB inf nan gr sd sq rt sc R a b fun x => k (.float .f64 x) := by kernel_rfl
theorem z_near (sub : KCCC) (len : KCF) (R : Type) a b c d m (k : Value → Option R) : evFn (cx Tryz.prog [(21, sCCC sub), (38, sCF len)]) 30 28 [.complex .f64 a b, .complex .f64 c d, .float .f64 m] k = nearB sub len R a b c d m fun t => k (.bool t) := by kernel_rfl
theorem z_finite (ab : KFF) (R : Type) a (k : Value → Option R) : evFn (cx Tryz.prog [(53, sFF ab)]) 30 141 [.float .f64 a] k = finiteB ab R a fun t => k (.bool t) := by kernel_rfl
theorem z_Finite (fi : KFB) (R : Type) a b (k : Value → Option R) : evFn (cx Tryz.prog [(141, sFB fi)]) 30 93 [.complex .f64 a b] k = FiniteB fi R a b fun t => k (.bool t) := by kernel_rfl
end Go.Vm
namespace Go.Vm
open Go.Proofs
set_option linter.unusedVariables false
set_option maxRecDepth 1000000
theorem z_div (ab : KFF) (R : Type) a b c d (k : Value → Option R) : evFn (cx Tryz.prog [(53, sFF ab)]) 30 179 [.complex .f64 a b, .complex .f64 c d] k = divB ab R a b c d fun x y => k (.complex .f64 x y) := by kernel_rfl
theorem z_under (mul add : KCCC) (R : Type) m a b (k : Value → Option R) : evFn (cx Tryz.prog [(22, sCCC mul), (84, sCCC add)]) 30 180 [mv 1 m, .complex .f64 a b] k = underB mul add R m a b fun x y => k (.complex .f64 x y) := by kernel_rfl
theorem z_moeb (un : KMZC) (no : KCB) (mul add div : KCCC) (R : Type) m a b (k : Value → Option R) : evFn (cx Tryz.prog [(180, sMZC un), (81, sCB no), (22, sCCC mul), (84, sCCC add), (179, sCCC div)]) 30 89 [mv 1 m, .complex .f64 a b] k =
   moebB un no mul add div R m a b (fun e => k (.tuple ⟨[.complex .f64 0 0, .int .i64 e]⟩)) (fun x y => k (.tuple ⟨[.complex .f64 x y, .int .i64 0]⟩)) := by kernel_rfl
theorem z_at (c1 c2 : KMI) (pl : KCB) (mo : KMZ) (fin : KCB) (R : Type) m a b (k : Value → Option R) : evFn (cx Tryz.prog [(17, sChk c1 c2), (79, sCB pl), (89, sMZ mo), (93, sCB fin)]) 40 26 [mv 1 m, .complex .f64 a b] k =
   atB c1 pl mo fin R m a b (fun e => k (.tuple ⟨[.complex .f64 0 0, .int .i64 e]⟩)) (fun x y => k (.tuple ⟨[.complex .f64 x y, .int .i64 0]⟩)) := by kernel_rfl
theorem z_unlike (lk : KCCB) (R : Type) l (k : Value → Option R) : evFn (cx Tryz.prog [(23, sCCB lk)]) 30 102 [tv l] k = unlikeB lk R l fun t => k (.bool t) := by kernel_rfl
theorem z_three (sub mul : KCCC) (ng : KCC) (told : KMM) (R : Type) l (k : Value → Option R) : evFn (cx Tryz.prog [(21, sCCC sub), (22, sCCC mul), (86, sCC ng), (85, sMM2 told)]) 30 103 [tv l] k = threeB sub mul ng told R l (mErr k) (mOk k) := by kernel_rfl
theorem z_Three (pl : KCB) (un : KTB) (th : KTM) (tu : KMM) (thn : KMMM) (R : Type) l n (k : Value → Option R) : evFn (cx Tryz.prog [(79, sCB pl), (102, sTB un), (103, sTM th), (20, sMM2 tu), (18, sMMM2 thn)]) 60 29 [tv l, tv n] k =
   ThreeB pl un th tu thn R l n (fun e => k (.tuple ⟨[mv 0 zm, .int .i64 e]⟩)) (mOk k) := by kernel_rfl
end Go.Vm
namespace Go.Vm
open Go.Proofs
set_option linter.unusedVariables false
set_option maxRecDepth 1000000
theorem z_threeLaw (up : KGB) (of_ : KGC) (three : KTTM) (at_ : KMZ) (near : KCCFB) (R : Type) f g (k : Value → Option R) :
   evFn (cx Tryz.prog [(14, sTrue), (24, sUp up), (25, sOf of_), (29, sTTM three), (26, sMZ at_), (28, sCCFB near)]) 80 5 [iv f, iv g] k = threeLaw up of_ three at_ near R f g fun t => k (.bool t) := by kernel_rfl
end Go.Vm
namespace Go.Vm
open Go.Proofs
set_option linter.unusedVariables false
set_option maxRecDepth 1000000

theorem SumOk.weak {P : Program} {f : FuncId} {s1 s2 : Sum} (h : SumOk P f s1)
    (H : ∀ (R : Type) (args : List Value) (k : Value → Option R) (r : R), s2 R args k = some r → ∃ k', s1 R args k' = some r ∧ ∀ v, k' v = some r → k v = some r) : SumOk P f s2 := by
  intro R args k r hr
  obtain ⟨k', h1, h2⟩ := H R args k r hr
  obtain ⟨h3, v, h4, h5, h6⟩ := h R args k' r h1
  exact ⟨h3, v, h2 v h4, h5, h6⟩

theorem ok_sNever {P : Program} {f : FuncId} : SumOk P f sNever := fun R args k r hr => by cases hr

theorem cxe_ok {P : Program} {l es : List (Nat × Sum)} (h : AllOk P l) (he : ∀ f g, tab es f = some g → ExtOk P f g) : (cxf fiReal P l es).Ok where
  fair := fiReal_fair
  sums := fun f g hg => tab_ok h f g hg
  exts := he
  meths := fun t s f hf => by cases hf
  nan1 := fun f hf => by cases hf
  hs := fun f args H v h => by cases h

theorem sumOk_exts {P : Program} {l es : List (Nat × Sum)} (hm : P.follows .mixedOrders = true) (h : AllOk P l) (he : ∀ f g, tab es f = some g → ExtOk P f g) {n : Nat} {f : FuncId} {g : Sum}
    (hg : ∀ (R : Type) (args : List Value) (k : Value → Option R) (r : R), g R args k = some r → inns 0 args = true ∧ evFn (cxf fiReal P l es) n f args k = some r) : SumOk P f g := by
  intro R args k r h1
  obtain ⟨h2, h3⟩ := hg R args k r h1
  exact ⟨h2, evFn_sound (cxe_ok h he) hm h3 h2⟩

section shapes
variable {P : Program} {l : List (Nat × Sum)} {n : Nat} {f : FuncId}
theorem ok_sInf {g : KFB} (hm : P.follows .mixedOrders = true) (h : AllOk P l)
    (hg : ∀ (R : Type) a (k : Value → Option R), evFn (cx P l) n f [.float .f64 a, .int .i64 0] k = g R a fun t => k (.bool t)) : SumOk P f (sInf g) :=
  sumOk_of hm h (n := n) fun R args k r hr => by
    unfold sInf at hr; split at hr
    · rename_i a s
      cases hi : (s == 0) with
      | false => rw [hi] at hr; cases hr
      | true =>
        rw [hi] at hr
        have : s = 0 := by simpa using hi
        subst this
        exact ⟨rfl, by rw [hg]; simpa only [forceB_eq, cond_true] using hr⟩
    · cases hr
theorem ok_sFFI {g : KFFI} (hm : P.follows .mixedOrders = true) (h : AllOk P l)
    (hg : ∀ (R : Type) a (k : Value → Option R), evFn (cx P l) n f [.float .f64 a] k = g R a fun x e => k (.tuple ⟨[.float .f64 x, .int .i64 e]⟩)) : SumOk P f (sFFI g) :=
  sumOk_of hm h (n := n) fun R args k r hr => by
    unfold sFFI at hr; split at hr
    · exact ⟨rfl, by rw [hg]; exact hr⟩
    · cases hr
theorem ok_sFIF {g : KFIF} (hm : P.follows .mixedOrders = true) (h : AllOk P l)
    (hg : ∀ (R : Type) a e (k : Value → Option R), evFn (cx P l) n f [.float .f64 a, .int .i64 e] k = g R a e fun x => k (.float .f64 x)) : SumOk P f (sFIF g) :=
  sumOk_of hm h (n := n) fun R args k r hr => by
    unfold sFIF at hr; split at hr
    · exact ⟨rfl, by rw [hg]; exact hr⟩
    · cases hr
theorem ok_sFFF {g : KFFF} (hm : P.follows .mixedOrders = true) (h : AllOk P l)
    (hg : ∀ (R : Type) a b (k : Value → Option R), evFn (cx P l) n f [.float .f64 a, .float .f64 b] k = g R a b fun x => k (.float .f64 x)) : SumOk P f (sFFF g) :=
  sumOk_of hm h (n := n) fun R args k r hr => by
    unfold sFFF at hr; split at hr
    · exact ⟨rfl, by rw [hg]; exact hr⟩
    · cases hr
theorem ok_sCF {g : KCF} (hm : P.follows .mixedOrders = true) (h : AllOk P l)
    (hg : ∀ (R : Type) a b (k : Value → Option R), evFn (cx P l) n f [.complex .f64 a b] k = g R a b fun x => k (.float .f64 x)) : SumOk P f (sCF g) :=
  sumOk_of hm h (n := n) fun R args k r hr => by
    unfold sCF at hr; split at hr
    · exact ⟨rfl, by rw [hg]; exact hr⟩
    · cases hr
theorem ok_sCCI {g : KCCI} (hm : P.follows .mixedOrders = true) (h : AllOk P l)
    (hg : ∀ (R : Type) a b (k : Value → Option R), evFn (cx P l) n f [.complex .f64 a b] k = g R a b fun x y e => k (.tuple ⟨[.complex .f64 x y, .int .i64 e]⟩)) : SumOk P f (sCCI g) :=
  sumOk_of hm h (n := n) fun R args k r hr => by
    unfold sCCI at hr; split at hr
    · exact ⟨rfl, by rw [hg]; exact hr⟩
    · cases hr
theorem ok_sCCFB {g : KCCFB} (hm : P.follows .mixedOrders = true) (h : AllOk P l)
    (hg : ∀ (R : Type) a b c d m (k : Value → Option R), evFn (cx P l) n f [.complex .f64 a b, .complex .f64 c d, .float .f64 m] k = g R a b c d m fun t => k (.bool t)) : SumOk P f (sCCFB g) :=
  sumOk_of hm h (n := n) fun R args k r hr => by
    unfold sCCFB at hr; split at hr
    · exact ⟨rfl, by rw [hg]; simpa only [forceB_eq] using hr⟩
    · cases hr
theorem ok_sTB {g : KTB} (hm : P.follows .mixedOrders = true) (h : AllOk P l)
    (hg : ∀ (R : Type) t (k : Value → Option R), evFn (cx P l) n f [tv t] k = g R t fun t => k (.bool t)) : SumOk P f (sTB g) :=
  sumOk_of hm h (n := n) fun R args k r hr => by
    unfold sTB at hr; split at hr
    · obtain ⟨t, rfl, hx⟩ := oneT_some hr
      exact ⟨rfl, by rw [hg]; simpa only [forceB_eq] using hx⟩
    · cases hr
theorem ok_sTM {g : KTM} (hm : P.follows .mixedOrders = true) (h : AllOk P l)
    (hg : ∀ (R : Type) t (k : Value → Option R), evFn (cx P l) n f [tv t] k = g R t (mErr k) (mOk k)) : SumOk P f (sTM g) :=
  sumOk_of hm h (n := n) fun R args k r hr => by
    unfold sTM at hr; split at hr
    · obtain ⟨t, rfl, hx⟩ := oneT_some hr
      exact ⟨rfl, by rw [hg]; exact hx⟩
    · cases hr
theorem ok_sMZC {g : KMZC} (hm : P.follows .mixedOrders = true) (h : AllOk P l)
    (hg : ∀ (R : Type) (m : Mp) a b (k : Value → Option R), evFn (cx P l) n f [mv 1 m, .complex .f64 a b] k = g R m a b fun x y => k (.complex .f64 x y)) : SumOk P f (sMZC g) :=
  sumOk_of hm h (n := n) fun R args k r hr => by
    unfold sMZC at hr; split at hr
    · obtain ⟨i, m, rfl, hx⟩ := oneM_some hr
      cases hi : (i == 1) with
      | false => rw [hi] at hx; cases hx
      | true =>
        rw [hi] at hx
        have : i = 1 := by simpa using hi
        subst this
        exact ⟨rfl, by rw [hg]; exact hx⟩
    · cases hr

/-- the plain shapes, with any error -/
def sTTMp (g : KTTM) : Sum := fun R args k => match args with
  | [v, u] => oneT v fun l => oneT u fun n => g R l n (fun e => k (.tuple ⟨[mv 0 zm, .int .i64 e]⟩)) (mOk k)
  | _ => none
def sMZp (g : KMZ) : Sum := fun R args k => match args with
  | [v, .complex .f64 a b] => oneM v fun i m => bif i == 1 then g R m a b (fun e => k (.tuple ⟨[.complex .f64 0 0, .int .i64 e]⟩)) (zOk k) else none
  | _ => none
theorem ok_sTTMp {g : KTTM} (hm : P.follows .mixedOrders = true) (h : AllOk P l)
    (hg : ∀ (R : Type) t u (k : Value → Option R), evFn (cx P l) n f [tv t, tv u] k = g R t u (fun e => k (.tuple ⟨[mv 0 zm, .int .i64 e]⟩)) (mOk k)) : SumOk P f (sTTMp g) :=
  sumOk_of hm h (n := n) fun R args k r hr => by
    unfold sTTMp at hr; split at hr
    · obtain ⟨t, rfl, hx⟩ := oneT_some hr
      obtain ⟨u, rfl, hy⟩ := oneT_some hx
      exact ⟨rfl, by rw [hg]; exact hy⟩
    · cases hr
theorem ok_sMZp {g : KMZ} (hm : P.follows .mixedOrders = true) (h : AllOk P l)
    (hg : ∀ (R : Type) (m : Mp) a b (k : Value → Option R), evFn (cx P l) n f [mv 1 m, .complex .f64 a b] k = g R m a b (fun e => k (.tuple ⟨[.complex .f64 0 0, .int .i64 e]⟩)) (zOk k)) : SumOk P f (sMZp g) :=
  sumOk_of hm h (n := n) fun R args k r hr => by
    unfold sMZp at hr; split at hr
    · obtain ⟨i, m, rfl, hx⟩ := oneM_some hr
      cases hi : (i == 1) with
      | false => rw [hi] at hx; cases hx
      | true =>
        rw [hi] at hx
        have : i = 1 := by simpa using hi
        subst this
        exact ⟨rfl, by rw [hg]; exact hx⟩
    · cases hr

def tellM {R : Type} (k : Value → Option R) (v : Value) : Option R := match v with
  | .tuple ⟨[.agg ⟨[.int .u8 0, .complex .f64 0 0, .complex .f64 0 0, .complex .f64 0 0, .complex .f64 0 0, .float .f64 0]⟩, .int .i64 e]⟩ => mErr k e
  | v => k v
theorem tellM_some {R : Type} {k : Value → Option R} {v : Value} {r : R} (h : tellM k v = some r) : k v = some r := by
  unfold tellM at h
  split at h
  · exact errIn_some h
  · exact h
theorem sMM2_of {g : KMM} (h : SumOk P f (sMM g)) : SumOk P f (sMM2 g) := h.weak fun R args k r hr => by
  refine ⟨tellM k, ?_, fun v hv => tellM_some hv⟩
  unfold sMM2 at hr; split at hr
  · exact hr
  · cases hr
theorem sMMM2_of {g : KMMM} (h : SumOk P f (sMMM g)) : SumOk P f (sMMM2 g) := h.weak fun R args k r hr => by
  refine ⟨tellM k, ?_, fun v hv => tellM_some hv⟩
  unfold sMMM2 at hr; split at hr
  · exact hr
  · cases hr
theorem sTTM_of {g : KTTM} (h : SumOk P f (sTTMp g)) : SumOk P f (sTTM g) := h.weak fun R args k r hr => by
  refine ⟨tellM k, ?_, fun v hv => tellM_some hv⟩
  unfold sTTM at hr; split at hr
  · exact hr
  · cases hr
end shapes

theorem chk1_told (pl no : KCB) (wi : KFFB) (det : KMC) (R : Type) (m : Mp) (F : Int → Option R) : chk1B pl no wi det R m F = chk1B pl no wi det R m (fun e => errIn [0, 5, 180] e F) := by kernel_rfl
theorem zErr_5 {R : Type} (k : Value → Option R) : zErr k 5 = k (.tuple ⟨[.complex .f64 0 0, .int .i64 5]⟩) := rfl
theorem zErr_6 {R : Type} (k : Value → Option R) : zErr k 6 = k (.tuple ⟨[.complex .f64 0 0, .int .i64 6]⟩) := rfl
theorem zErr_180 {R : Type} (k : Value → Option R) : zErr k 180 = k (.tuple ⟨[.complex .f64 0 0, .int .i64 180]⟩) := rfl
theorem moeb_told (un : KMZC) (no : KCB) (mul add div : KCCC) (R : Type) (m : Mp) (a b : Nat) (k : Value → Option R) (kk : Nat → Nat → Option R) :
    moebB un no mul add div R m a b (zErr k) kk = moebB un no mul add div R m a b (fun e => k (.tuple ⟨[.complex .f64 0 0, .int .i64 e]⟩)) kk := by kernel_rfl
theorem errIn_z {R : Type} (k : Value → Option R) (e : Int) : errIn [5, 6, 180] e (zErr k) = errIn [5, 6, 180] e (fun e => k (.tuple ⟨[.complex .f64 0 0, .int .i64 e]⟩)) := rfl
theorem at_told {chk : KMI} (pl : KCB) (mo : KMZ) (fin : KCB) (hc : ∀ (R : Type) (m : Mp) (F : Int → Option R), chk R m F = chk R m (fun e => errIn [0, 5, 180] e F))
    (R : Type) (m : Mp) (a b : Nat) (k : Value → Option R) (kk : Nat → Nat → Option R) :
    atB chk pl mo fin R m a b (zErr k) kk = atB chk pl mo fin R m a b (fun e => k (.tuple ⟨[.complex .f64 0 0, .int .i64 e]⟩)) kk := by
  unfold atB
  rw [hc]
  refine Eq.trans ?_ (hc R m _).symm
  congr 1

theorem h112 : Has Tryz.prog 112 := ⟨Tryz.f112, _, Tryz.func112, by kernel_rfl, rfl⟩
theorem h114 : Has Tryz.prog 114 := ⟨Tryz.f114, _, Tryz.func114, by kernel_rfl, rfl⟩
theorem h275 : Has Tryz.prog 275 := ⟨Tryz.f275, _, Tryz.func275, by kernel_rfl, rfl⟩
theorem h260 : Has Tryz.prog 260 := ⟨Tryz.f260, _, Tryz.func260, by kernel_rfl, rfl⟩
theorem h229 : Has Tryz.prog 229 := ⟨Tryz.f229, _, Tryz.func229, by kernel_rfl, rfl⟩
theorem h200 : Has Tryz.prog 200 := ⟨Tryz.f200, _, Tryz.func200, by kernel_rfl, rfl⟩
theorem h77 : Has Tryz.prog 77 := ⟨Tryz.f77, _, Tryz.func77, by kernel_rfl, rfl⟩
theorem h247 : Has Tryz.prog 247 := ⟨Tryz.f247, _, Tryz.func247, by kernel_rfl, rfl⟩
theorem h201 : Has Tryz.prog 201 := ⟨Tryz.f201, _, Tryz.func201, by kernel_rfl, rfl⟩
theorem h117 : Has Tryz.prog 117 := ⟨Tryz.f117, _, Tryz.func117, by kernel_rfl, rfl⟩
theorem h115 : Has Tryz.prog 115 := ⟨Tryz.f115, _, Tryz.func115, by kernel_rfl, rfl⟩
theorem h116 : Has Tryz.prog 116 := ⟨Tryz.f116, _, Tryz.func116, by kernel_rfl, rfl⟩
theorem h119 : Has Tryz.prog 119 := ⟨Tryz.f119, _, Tryz.func119, by kernel_rfl, rfl⟩
theorem h118 : Has Tryz.prog 118 := ⟨Tryz.f118, _, Tryz.func118, by kernel_rfl, rfl⟩
theorem h38 : Has Tryz.prog 38 := ⟨Tryz.f38, _, Tryz.func38, by kernel_rfl, rfl⟩
theorem h28 : Has Tryz.prog 28 := ⟨Tryz.f28, _, Tryz.func28, by kernel_rfl, rfl⟩
theorem h141 : Has Tryz.prog 141 := ⟨Tryz.f141, _, Tryz.func141, by kernel_rfl, rfl⟩
theorem h93 : Has Tryz.prog 93 := ⟨Tryz.f93, _, Tryz.func93, by kernel_rfl, rfl⟩
theorem h179 : Has Tryz.prog 179 := ⟨Tryz.f179, _, Tryz.func179, by kernel_rfl, rfl⟩
theorem h180 : Has Tryz.prog 180 := ⟨Tryz.f180, _, Tryz.func180, by kernel_rfl, rfl⟩
theorem h89 : Has Tryz.prog 89 := ⟨Tryz.f89, _, Tryz.func89, by kernel_rfl, rfl⟩
theorem h26 : Has Tryz.prog 26 := ⟨Tryz.f26, _, Tryz.func26, by kernel_rfl, rfl⟩
theorem h102 : Has Tryz.prog 102 := ⟨Tryz.f102, _, Tryz.func102, by kernel_rfl, rfl⟩
theorem h103 : Has Tryz.prog 103 := ⟨Tryz.f103, _, Tryz.func103, by kernel_rfl, rfl⟩
theorem h29 : Has Tryz.prog 29 := ⟨Tryz.f29, _, Tryz.func29, by kernel_rfl, rfl⟩
theorem h113 : Has Tryz.prog 113 := ⟨Tryz.f113, _, Tryz.func113, by kernel_rfl, rfl⟩
theorem h55 : Has Tryz.prog 55 := ⟨Tryz.f55, _, Tryz.func55, by kernel_rfl, rfl⟩

theorem k112 : SumOk Tryz.prog 112 (sInf isInfK) := ok_sInf zm_ok (.cons k53 h53 .nil) (z_isInf _)
theorem k114 : SumOk Tryz.prog 114 (sFB isNanK) := ok_sFB zm_ok .nil z_isNan
theorem k275 : SumOk Tryz.prog 275 (sFFI normK) := ok_sFFI zm_ok (.cons k53 h53 .nil) (z_norm _)
theorem k260 : SumOk Tryz.prog 260 (sFFI frexpK) := ok_sFFI zm_ok (.cons k112 h112 (.cons k114 h114 (.cons k275 h275 .nil))) (z_frexp fiReal _ _ _)
theorem k229 : SumOk Tryz.prog 229 (sFFI frexpK) := ok_sFFI zm_ok (.cons k260 h260 .nil) (z_Frexp _)
theorem k200 : SumOk Tryz.prog 200 (sFFI frexpK) := ok_sFFI zm_ok (.cons k229 h229 .nil) (z_Parts _)
theorem k77 : SumOk Tryz.prog 77 (sFFF copyK) := ok_sFFF zm_ok .nil z_copy
theorem k113 : SumOk Tryz.prog 113 sNever := ok_sNever
theorem k55 : SumOk Tryz.prog 55 sNever := ok_sNever
theorem k247 : SumOk Tryz.prog 247 (sFIF ldexpK) := ok_sFIF zm_ok (.cons k112 h112 (.cons k114 h114 (.cons k275 h275 (.cons k77 h77 (.cons k113 h113 .nil))))) (z_ldexp fiReal _ _ _ _)
theorem k201 : SumOk Tryz.prog 201 (sFIF ldexpK) := ok_sFIF zm_ok (.cons k247 h247 .nil) (z_Ldexp _)
theorem k117 : SumOk Tryz.prog 117 (sFIF scaleK) := ok_sFIF zm_ok (.cons k201 h201 .nil) (z_scale _)
theorem k115 : SumOk Tryz.prog 115 (sCF greatestK) := ok_sCF zm_ok (.cons k53 h53 .nil) (z_greatest _)
theorem k116 : SumOk Tryz.prog 116 (sCCI scaledK) := ok_sCCI zm_ok (.cons k115 h115 (.cons k200 h200 (.cons k117 h117 .nil))) (z_scaled _ _ _)
theorem k119 : SumOk Tryz.prog 119 (sCF squareK) := ok_sCF zm_ok .nil z_square

/-! ### math.Sqrt: its body calls what has no body -/
theorem z_sqrt (rt : KFF) (R : Type) a (k : Value → Option R) : evFn (cxf fiReal Tryz.prog [] [(202, sFF rt)]) 20 118 [.float .f64 a] k = rt R a fun x => k (.float .f64 x) := by kernel_rfl
theorem run_202 (a r : Nat) (h : Ieee.double.sqrt a = some r) (w : World) : (callFunc 202 #[.float .f64 a]).run Tryz.prog w = .ok (.value (.float .f64 r)) w := by
  have h1 : Tryz.prog.funcs[202]? = some Tryz.f202 := Tryz.func202
  have h2 : (Tryz.f202.name == "runtime.NumGoroutine") = false := by kernel_rfl
  have h3 : Tryz.f202.body.isNone = true := by kernel_rfl
  have h4 : Extern.find Tryz.f202 = some Extern.MathSqrt.sqrt := by kernel_rfl
  have h5 : (Extern.findNext Tryz.f202).isNone = true := by kernel_rfl
  have h5' : Extern.findNext Tryz.f202 = none := by simpa using h5
  have h6 : Extern.MathSqrt.sqrt #[.float .f64 a] = pure (.float .f64 r) := by
    show (match Ieee.double.sqrt a with | some r => _ | none => _) = _
    rw [h]
  unfold callFunc
  have h2' : Tryz.f202.name ≠ "runtime.NumGoroutine" := by simpa using h2
  have h3' : Tryz.f202.body = none := by simpa using h3
  simp [Sem.run_bind, h1, h2', h3', h4, h5', h6]
theorem e202 : ExtOk Tryz.prog 202 (sFF sqrtK) := by
  intro R args k r hr
  unfold sFF at hr; split at hr
  · rename_i a
    unfold sqrtK at hr
    cases hs : Ieee.double.sqrt a with
    | none => rw [hs] at hr; cases hr
    | some x =>
      rw [bindF_eq hs] at hr
      exact ⟨rfl, _, hr, rfl, fun w => run_202 a x hs w⟩
  · cases hr
theorem k118 : SumOk Tryz.prog 118 (sFF sqrtK) := sumOk_exts (l := []) (es := [(202, sFF sqrtK)]) (n := 20) zm_ok .nil
  (fun f g h => by
    unfold tab at h
    cases hb : Nat.beq 202 f with
    | true =>
      rw [hb] at h; cases h
      rw [← Nat.eq_of_beq_eq_true hb]; exact e202
    | false => rw [hb] at h; cases h)
  fun R args k r hr => by
    unfold sFF at hr; split at hr
    · exact ⟨rfl, by rw [z_sqrt]; exact hr⟩
    · cases hr
theorem k38 : SumOk Tryz.prog 38 (sCF lengthK) :=
  ok_sCF zm_ok (.cons k112 h112 (.cons k114 h114 (.cons k115 h115 (.cons k116 h116 (.cons k119 h119 (.cons k118 h118 (.cons k117 h117 (.cons k113 h113 (.cons k55 h55 .nil))))))))) (z_length _ _ _ _ _ _ _)
theorem k28 : SumOk Tryz.prog 28 (sCCFB nearK) := ok_sCCFB zm_ok (.cons k21 h21 (.cons k38 h38 .nil)) (z_near _ _)
theorem k141 : SumOk Tryz.prog 141 (sFB finiteK) := ok_sFB zm_ok (.cons k53 h53 .nil) (z_finite _)
theorem k93 : SumOk Tryz.prog 93 (sCB FiniteK) := ok_sCB zm_ok (.cons k141 h141 .nil) (z_Finite _)
theorem k179 : SumOk Tryz.prog 179 (sCCC divK) := ok_sCCC zm_ok (.cons k53 h53 .nil) (z_div _)
theorem k180 : SumOk Tryz.prog 180 (sMZC underK) := ok_sMZC zm_ok (.cons k22 h22 (.cons k84 h84 .nil)) (z_under _ _)
theorem k89' : SumOk Tryz.prog 89 (sMZp moebK) := ok_sMZp zm_ok (.cons k180 h180 (.cons k81 h81 (.cons k22 h22 (.cons k84 h84 (.cons k179 h179 .nil))))) (z_moeb _ _ _ _ _)
theorem k89 : SumOk Tryz.prog 89 (sMZ moebK) := k89'.weak fun R args k r hr => by
  refine ⟨k, ?_, fun v hv => hv⟩
  unfold sMZ at hr; split at hr
  · obtain ⟨i, m, rfl, hx⟩ := oneM_some hr
    cases hi : (i == 1) with
    | false => rw [hi] at hx; cases hx
    | true =>
      rw [hi, cond_true, show moebK = moebB underK noughtK mulK addK divK from rfl, moeb_told] at hx
      unfold sMZp
      show (bif i == 1 then _ else _) = _
      rw [hi]
      exact hx
  · cases hr
theorem k26' : SumOk Tryz.prog 26 (sMZp atK) := ok_sMZp zm_ok (.cons k17 h17 (.cons k79 h79 (.cons k89 h89 (.cons k93 h93 .nil)))) (z_at _ _ _ _ _)
theorem k26 : SumOk Tryz.prog 26 (sMZ atK) := k26'.weak fun R args k r hr => by
  refine ⟨k, ?_, fun v hv => hv⟩
  unfold sMZ at hr; split at hr
  · obtain ⟨i, m, rfl, hx⟩ := oneM_some hr
    cases hi : (i == 1) with
    | false => rw [hi] at hx; cases hx
    | true =>
      rw [hi, cond_true, show atK = atB chkK placeK moebK FiniteK from rfl, at_told (chk := chkK) placeK moebK FiniteK (fun R m F => chk1_told _ _ _ _ R m F)] at hx
      unfold sMZp
      show (bif i == 1 then _ else _) = _
      rw [hi]
      exact hx
  · cases hr
theorem k102 : SumOk Tryz.prog 102 (sTB unlikeK) := ok_sTB zm_ok (.cons k23 h23 .nil) (z_unlike _)
theorem k103 : SumOk Tryz.prog 103 (sTM threeK) := ok_sTM zm_ok (.cons k21 h21 (.cons k22 h22 (.cons k86 h86 (.cons (sMM2_of k85) h85 .nil)))) (z_three _ _ _ _)
theorem k29 : SumOk Tryz.prog 29 (sTTM ThreeK) :=
  sTTM_of (ok_sTTMp zm_ok (.cons k79 h79 (.cons k102 h102 (.cons k103 h103 (.cons (sMM2_of k20) h20 (.cons (sMMM2_of k18) h18 .nil))))) (z_Three _ _ _ _ _))

theorem three_calls (f g : I3) (w : World) : Calls Tryz.prog 5 ⟨[iv f, iv g]⟩ w fun e w' => e = .returned (.bool true) ∧ RowKit.Below w.heap.size w w' := by
  have hall : AllOk Tryz.prog [(14, sTrue), (24, sUp upG), (25, sOf ofG), (29, sTTM ThreeK), (26, sMZ atK), (28, sCCFB nearK)] :=
    .cons k14 h14 (.cons k24 h24 (.cons k25 h25 (.cons k29 h29 (.cons k26 h26 (.cons k28 h28 .nil)))))
  have e : evFn (cx Tryz.prog [(14, sTrue), (24, sUp upG), (25, sOf ofG), (29, sTTM ThreeK), (26, sMZ atK), (28, sCCFB nearK)]) 80 5 [iv f, iv g] (fun v => match v with | .bool true => some () | _ => none) = some () := by
    rw [z_threeLaw]
    exact threeLawK_true f g _
  obtain ⟨v, h1, _, h2⟩ := evFn_sound (cx_ok hall) zm_ok e rfl
  have : v = .bool true := by
    split at h1
    · rfl
    · cases h1
  subst this
  exact h2 w
end Go.Vm
namespace Go.Vm
open Go.Proofs
set_option linter.unusedVariables false
set_option maxRecDepth 1000000
theorem z_inf0 (ab : KFF) (R : Type) a (k : Value → Option R) : evFn (cx Tryz.prog [(53, sFF ab)]) 20 112 [.float .f64 a, .int .i64 0] k = isInfB ab R a fun t => k (.bool t) := by kernel_rfl
theorem z_infP (ab : KFF) (R : Type) a (k : Value → Option R) : evFn (cx Tryz.prog [(53, sFF ab)]) 20 112 [.float .f64 a, .int .i64 1] k = isInfPK R a fun t => k (.bool t) := by kernel_rfl
theorem z_infM (ab : KFF) (R : Type) a (k : Value → Option R) : evFn (cx Tryz.prog [(53, sFF ab)]) 20 112 [.float .f64 a, .int .i64 (-1)] k = isInfMK R a fun t => k (.bool t) := by kernel_rfl
theorem z_Inf (R : Type) (k : Value → Option R) : evFn (cx Tryz.prog []) 40 113 [.int .i64 1] k = k (.float .f64 9218868437227405312) := by kernel_rfl
theorem z_scl (R : Type) a b c (k : Value → Option R) : evFn (cx Tryz.prog []) 20 39 [.complex .f64 a b, .float .f64 c] k = sclK R a b c fun x y => k (.complex .f64 x y) := by kernel_rfl
theorem z_edge (g0 gp gm nan : KFB) (cp : KFFF) (R : Type) a b (k : Value → Option R) : evFn (cx Tryz.prog [(113, sInfW), (112, sInf3 g0 gp gm), (114, sFB nan), (77, sFFF cp), (272, sNever), (55, sNever)]) 60 237 [.float .f64 a, .float .f64 b] k =
  edgeB g0 gp gm nan cp R a b fun x y t => k (.tuple ⟨[.complex .f64 x y, .bool t]⟩) := by kernel_rfl
theorem z_root (fi : Fi) (edge : KFFCB) (gr : KCF) (pa : KFFI) (sc : KFIF) (ab : KFF) (sq : KCF) (rt : KFF) (cp : KFFF) (R : Type) a b (k : Value → Option R) :
  evFn (cxf fi Tryz.prog [(237, sFFCB edge), (115, sCF gr), (200, sFFI pa), (117, sFIF sc), (53, sFF ab), (119, sCF sq), (118, sFF rt), (77, sFFF cp)] []) 60 188 [.complex .f64 a b] k =
  rootB fi edge gr pa sc ab sq rt cp R a b fun x y => k (.complex .f64 x y) := by kernel_rfl
theorem z_sqr (mul : KCCC) (R : Type) m (k : Value → Option R) : evFn (cx Tryz.prog [(22, sCCC mul)]) 20 181 [mv 2 m] k = sqrB mul R m fun x y => k (.complex .f64 x y) := by kernel_rfl
theorem z_jouk (no : KCB) (sqr : KMC) (div add : KCCC) (R : Type) m a b (k : Value → Option R) : evFn (cx Tryz.prog [(81, sCB no), (181, sM2C sqr), (179, sCCC div), (84, sCCC add)]) 30 90 [mv 2 m, .complex .f64 a b] k =
  joukB no sqr div add R m a b (zErrL [6] k) (zOk k) := by kernel_rfl
theorem z_mback (no : KCB) (mul sub div : KCCC) (R : Type) m a b (k : Value → Option R) : evFn (cx Tryz.prog [(81, sCB no), (22, sCCC mul), (21, sCCC sub), (179, sCCC div)]) 30 98 [mv 1 m, .complex .f64 a b] k =
  moebBackB no mul sub div R m a b (zErrL [181] k) (zOk k) := by kernel_rfl
theorem z_jback (scl : KCFC) (mul sub add : KCCC) (neg root : KCC) (R : Type) m a b (k : Value → Option R) :
  evFn (cx Tryz.prog [(39, sCFC scl), (22, sCCC mul), (21, sCCC sub), (84, sCCC add), (86, sCC neg), (188, sCC root)]) 40 99 [mv 2 m, .complex .f64 a b] k =
  joukBackB scl mul sub add neg root R m a b (zErrL [] k) (zOk k) := by kernel_rfl
theorem z_jother (jb : KMZ) (sqr : KMC) (div : KCCC) (R : Type) m a b (k : Value → Option R) :
  evFn (cx Tryz.prog [(99, sMZL [] 2 jb), (181, sM2C sqr), (179, sCCC div)]) 40 95 [mv 2 m, .complex .f64 a b] k =
  joukOtherB jb sqr div R m a b (zErrL [] k) (zOk k) := by kernel_rfl
end Go.Vm
namespace Go.Vm
open Go.Proofs
set_option linter.unusedVariables false
set_option maxRecDepth 1000000
theorem z_at2 (c1 c2 : KMI) (pl : KCB) (jo : KMZ) (fin : KCB) (R : Type) m a b (k : Value → Option R) : evFn (cx Tryz.prog [(17, sChk c1 c2), (79, sCB pl), (90, sMZL [6] 2 jo), (93, sCB fin)]) 40 26 [mv 2 m, .complex .f64 a b] k =
   atLB [6] c2 pl jo fin R m a b (fun e => k (.tuple ⟨[.complex .f64 0 0, .int .i64 e]⟩)) (zOk k) := by kernel_rfl
theorem z_bk1 (c1 c2 : KMI) (pl : KCB) (mb : KMZ) (R : Type) m a b (k : Value → Option R) : evFn (cx Tryz.prog [(17, sChk c1 c2), (79, sCB pl), (98, sMZL [181] 1 mb)]) 40 27 [mv 1 m, .complex .f64 a b, .bool false] k =
   atLB [181] c1 pl mb pl R m a b (fun e => k (.tuple ⟨[.complex .f64 0 0, .int .i64 e]⟩)) (zOk k) := by kernel_rfl
theorem z_bk2 (c1 c2 : KMI) (pl : KCB) (jb : KMZ) (R : Type) m a b (k : Value → Option R) : evFn (cx Tryz.prog [(17, sChk c1 c2), (79, sCB pl), (99, sMZL [] 2 jb)]) 40 27 [mv 2 m, .complex .f64 a b, .bool false] k =
   atLB [] c2 pl jb pl R m a b (fun e => k (.tuple ⟨[.complex .f64 0 0, .int .i64 e]⟩)) (zOk k) := by kernel_rfl
theorem z_bk3 (c1 c2 : KMI) (pl : KCB) (jo : KMZ) (R : Type) m a b (k : Value → Option R) : evFn (cx Tryz.prog [(17, sChk c1 c2), (79, sCB pl), (95, sMZL [] 2 jo)]) 40 27 [mv 2 m, .complex .f64 a b, .bool true] k =
   atLB [] c2 pl jo pl R m a b (fun e => k (.tuple ⟨[.complex .f64 0 0, .int .i64 e]⟩)) (zOk k) := by kernel_rfl
theorem z_thereLaw (up : KGB) (of_ : KGC) (small : KFrB) (fr : KFrM) (at1 at2 bk1 bk2 bk3 : KMZ) (near : KCCFB) (R : Type) f a p (k : Value → Option R) :
   evFn (cx Tryz.prog [(14, sTrue), (24, sUp up), (25, sOf of_), (16, sFrB small), (15, sFrM fr), (26, sAt at1 at2), (27, sBack bk1 bk2 bk3), (28, sCCFB near)]) 80 4 [fv f, gv a, gv p] k = thereLaw up of_ small fr at1 at2 bk1 bk2 bk3 near R f a p fun t => k (.bool t) := by kernel_rfl
end Go.Vm
namespace Go.Vm
open Go.Proofs
set_option linter.unusedVariables false
set_option maxRecDepth 1000000

def sBk (t : Bool) (kind : Int) (L : List Int) (g : KMZ) : Sum := fun R args k => match args with
  | [v, .complex .f64 a b, .bool u] => oneM v fun i m => bif u == t && i == kind then g R m a b (zErrL L k) (zOk k) else none
  | _ => none

section shapes
variable {P : Program} {l : List (Nat × Sum)} {n : Nat} {f : FuncId}
theorem SumOk.or {s s1 s2 : Sum} (h1 : SumOk P f s1) (h2 : SumOk P f s2) (h : ∀ (R : Type) (args : List Value) (k : Value → Option R) (r : R), s R args k = some r → s1 R args k = some r ∨ s2 R args k = some r) : SumOk P f s := by
  intro R args k r hr
  rcases h R args k r hr with g | g
  · exact h1 R args k r g
  · exact h2 R args k r g
theorem ok_sInf1 {s : Int} {g : KFB} (hm : P.follows .mixedOrders = true) (h : AllOk P l)
    (hg : ∀ (R : Type) a (k : Value → Option R), evFn (cx P l) n f [.float .f64 a, .int .i64 s] k = g R a fun t => k (.bool t)) :
    SumOk P f (fun R args k => match args with
      | [.float .f64 a, .int .i64 u] => bif u == s then g R a fun t => forceB t fun t => k (.bool t) else none
      | _ => none) :=
  sumOk_of hm h (n := n) fun R args k r hr => by
    split at hr
    · rename_i a u
      cases hi : (u == s) with
      | false => rw [hi] at hr; cases hr
      | true =>
        rw [hi] at hr
        have : u = s := by simpa using hi
        subst this
        exact ⟨rfl, by rw [hg]; simpa only [forceB_eq, cond_true] using hr⟩
    · cases hr
theorem ok_sInfW (hm : P.follows .mixedOrders = true) (h : AllOk P l)
    (hg : ∀ (R : Type) (k : Value → Option R), evFn (cx P l) n f [.int .i64 1] k = k (.float .f64 9218868437227405312)) : SumOk P f sInfW :=
  sumOk_of hm h (n := n) fun R args k r hr => by
    unfold sInfW at hr; split at hr
    · rename_i u
      cases hi : (u == 1) with
      | false => rw [hi] at hr; cases hr
      | true =>
        rw [hi] at hr
        have : u = 1 := by simpa using hi
        subst this
        exact ⟨rfl, by rw [hg]; exact hr⟩
    · cases hr
theorem ok_sFFCB {g : KFFCB} (hm : P.follows .mixedOrders = true) (h : AllOk P l)
    (hg : ∀ (R : Type) a b (k : Value → Option R), evFn (cx P l) n f [.float .f64 a, .float .f64 b] k = g R a b fun x y t => k (.tuple ⟨[.complex .f64 x y, .bool t]⟩)) : SumOk P f (sFFCB g) :=
  sumOk_of hm h (n := n) fun R args k r hr => by
    unfold sFFCB at hr; split at hr
    · exact ⟨rfl, by rw [hg]; simpa only [forceB_eq] using hr⟩
    · cases hr
theorem ok_sCFC {g : KCFC} (hm : P.follows .mixedOrders = true) (h : AllOk P l)
    (hg : ∀ (R : Type) a b c (k : Value → Option R), evFn (cx P l) n f [.complex .f64 a b, .float .f64 c] k = g R a b c fun x y => k (.complex .f64 x y)) : SumOk P f (sCFC g) :=
  sumOk_of hm h (n := n) fun R args k r hr => by
    unfold sCFC at hr; split at hr
    · exact ⟨rfl, by rw [hg]; exact hr⟩
    · cases hr
theorem ok_sM2C {g : KMC} (hm : P.follows .mixedOrders = true) (h : AllOk P l)
    (hg : ∀ (R : Type) (m : Mp) (k : Value → Option R), evFn (cx P l) n f [mv 2 m] k = g R m fun x y => k (.complex .f64 x y)) : SumOk P f (sM2C g) :=
  sumOk_of hm h (n := n) fun R args k r hr => by
    unfold sM2C at hr; split at hr
    · obtain ⟨i, m, rfl, hx⟩ := oneM_some hr
      cases hi : (i == 2) with
      | false => rw [hi] at hx; cases hx
      | true =>
        rw [hi] at hx
        have : i = 2 := by simpa using hi
        subst this
        exact ⟨rfl, by rw [hg]; exact hx⟩
    · cases hr
theorem ok_sMZL {L : List Int} {kind : Int} {g : KMZ} (hm : P.follows .mixedOrders = true) (h : AllOk P l)
    (hg : ∀ (R : Type) (m : Mp) a b (k : Value → Option R), evFn (cx P l) n f [mv kind m, .complex .f64 a b] k = g R m a b (zErrL L k) (zOk k)) : SumOk P f (sMZL L kind g) :=
  sumOk_of hm h (n := n) fun R args k r hr => by
    unfold sMZL at hr; split at hr
    · obtain ⟨i, m, rfl, hx⟩ := oneM_some hr
      cases hi : (i == kind) with
      | false => rw [hi] at hx; cases hx
      | true =>
        rw [hi] at hx
        have : i = kind := by simpa using hi
        subst this
        exact ⟨rfl, by rw [hg]; exact hx⟩
    · cases hr
theorem ok_sBk {t : Bool} {L : List Int} {kind : Int} {g : KMZ} (hm : P.follows .mixedOrders = true) (h : AllOk P l)
    (hg : ∀ (R : Type) (m : Mp) a b (k : Value → Option R), evFn (cx P l) n f [mv kind m, .complex .f64 a b, .bool t] k = g R m a b (zErrL L k) (zOk k)) : SumOk P f (sBk t kind L g) :=
  sumOk_of hm h (n := n) fun R args k r hr => by
    unfold sBk at hr; split at hr
    · rename_i u
      obtain ⟨i, m, rfl, hx⟩ := oneM_some hr
      cases hi : (u == t && i == kind) with
      | false => rw [hi] at hx; cases hx
      | true =>
        rw [hi] at hx
        obtain ⟨rfl, rfl⟩ : u = t ∧ i = kind := by simpa using hi
        exact ⟨rfl, by rw [hg]; exact hx⟩
    · cases hr
end shapes

theorem chk2_told (pl no : KCB) (wi : KFFB) (R : Type) (m : Mp) (F : Int → Option R) : chk2B pl no wi R m F = chk2B pl no wi R m (fun e => errIn [0, 5, 180] e F) := by kernel_rfl
theorem atL_told6 {chk : KMI} (pl : KCB) (mo : KMZ) (fin : KCB) (hc : ∀ (R : Type) (m : Mp) (F : Int → Option R), chk R m F = chk R m (fun e => errIn [0, 5, 180] e F))
    (R : Type) (m : Mp) (a b : Nat) (k : Value → Option R) (kk : Nat → Nat → Option R) :
    atLB [6] chk pl mo fin R m a b (zErrL [5, 6, 180] k) kk = atLB [6] chk pl mo fin R m a b (fun e => k (.tuple ⟨[.complex .f64 0 0, .int .i64 e]⟩)) kk := by
  unfold atLB
  rw [hc]
  refine Eq.trans ?_ (hc R m _).symm
  congr 1
theorem atL_told181 {chk : KMI} (pl : KCB) (mo : KMZ) (fin : KCB) (hc : ∀ (R : Type) (m : Mp) (F : Int → Option R), chk R m F = chk R m (fun e => errIn [0, 5, 180] e F))
    (R : Type) (m : Mp) (a b : Nat) (k : Value → Option R) (kk : Nat → Nat → Option R) :
    atLB [181] chk pl mo fin R m a b (zErrL [5, 6, 180, 181] k) kk = atLB [181] chk pl mo fin R m a b (fun e => k (.tuple ⟨[.complex .f64 0 0, .int .i64 e]⟩)) kk := by
  unfold atLB
  rw [hc]
  refine Eq.trans ?_ (hc R m _).symm
  congr 1
theorem atL_told0 {chk : KMI} (pl : KCB) (mo : KMZ) (fin : KCB) (hc : ∀ (R : Type) (m : Mp) (F : Int → Option R), chk R m F = chk R m (fun e => errIn [0, 5, 180] e F))
    (R : Type) (m : Mp) (a b : Nat) (k : Value → Option R) (kk : Nat → Nat → Option R) :
    atLB [] chk pl mo fin R m a b (zErrL [5, 6, 180] k) kk = atLB [] chk pl mo fin R m a b (fun e => k (.tuple ⟨[.complex .f64 0 0, .int .i64 e]⟩)) kk := by
  unfold atLB
  rw [hc]
  refine Eq.trans ?_ (hc R m _).symm
  congr 1
theorem chkK_told (R : Type) (m : Mp) (F : Int → Option R) : chkK R m F = chkK R m (fun e => errIn [0, 5, 180] e F) := chk1_told _ _ _ _ R m F
theorem chk2P_told (R : Type) (m : Mp) (F : Int → Option R) : chk2P R m F = chk2P R m (fun e => errIn [0, 5, 180] e F) := chk2_told _ _ _ R m F

theorem h237 : Has Tryz.prog 237 := ⟨Tryz.f237, _, Tryz.func237, by kernel_rfl, rfl⟩
theorem h272 : Has Tryz.prog 272 := ⟨Tryz.f272, _, Tryz.func272, by kernel_rfl, rfl⟩
theorem h188 : Has Tryz.prog 188 := ⟨Tryz.f188, _, Tryz.func188, by kernel_rfl, rfl⟩
theorem h39 : Has Tryz.prog 39 := ⟨Tryz.f39, _, Tryz.func39, by kernel_rfl, rfl⟩
theorem h181 : Has Tryz.prog 181 := ⟨Tryz.f181, _, Tryz.func181, by kernel_rfl, rfl⟩
theorem h90 : Has Tryz.prog 90 := ⟨Tryz.f90, _, Tryz.func90, by kernel_rfl, rfl⟩
theorem h98 : Has Tryz.prog 98 := ⟨Tryz.f98, _, Tryz.func98, by kernel_rfl, rfl⟩
theorem h99 : Has Tryz.prog 99 := ⟨Tryz.f99, _, Tryz.func99, by kernel_rfl, rfl⟩
theorem h95 : Has Tryz.prog 95 := ⟨Tryz.f95, _, Tryz.func95, by kernel_rfl, rfl⟩
theorem h27 : Has Tryz.prog 27 := ⟨Tryz.f27, _, Tryz.func27, by kernel_rfl, rfl⟩

theorem k112' : SumOk Tryz.prog 112 (sInf3 isInfK isInfPK isInfMK) := by
  intro R args k r hr
  unfold sInf3 at hr
  split at hr
  · rename_i a s
    cases h0 : (s == 0) with
    | true => exact ok_sInf1 zm_ok (.cons k53 h53 .nil) (z_inf0 absK) R _ k r (by rw [h0] at hr; show (bif s == 0 then _ else _) = _; rw [h0]; exact hr)
    | false =>
      cases h1 : (s == 1) with
      | true => exact ok_sInf1 zm_ok (.cons k53 h53 .nil) (z_infP absK) R _ k r (by rw [h0, h1] at hr; show (bif s == 1 then _ else _) = _; rw [h1]; exact hr)
      | false =>
        cases h2 : (s == -1) with
        | true => exact ok_sInf1 zm_ok (.cons k53 h53 .nil) (z_infM absK) R _ k r (by rw [h0, h1, h2] at hr; show (bif s == -1 then _ else _) = _; rw [h2]; exact hr)
        | false => rw [h0, h1, h2] at hr; cases hr
  · cases hr
theorem k113' : SumOk Tryz.prog 113 sInfW := ok_sInfW zm_ok .nil z_Inf
theorem k272 : SumOk Tryz.prog 272 sNever := ok_sNever
theorem k39 : SumOk Tryz.prog 39 (sCFC sclK) := ok_sCFC zm_ok .nil z_scl
theorem k237 : SumOk Tryz.prog 237 (sFFCB edgeK) := ok_sFFCB zm_ok (.cons k113' h113 (.cons k112' h112 (.cons k114 h114 (.cons k77 h77 (.cons k272 h272 (.cons k55 h55 .nil)))))) (z_edge _ _ _ _ _)
theorem k188 : SumOk Tryz.prog 188 (sCC rootK) :=
  ok_sCC zm_ok (.cons k237 h237 (.cons k115 h115 (.cons k200 h200 (.cons k117 h117 (.cons k53 h53 (.cons k119 h119 (.cons k118 h118 (.cons k77 h77 .nil)))))))) (z_root fiReal _ _ _ _ _ _ _ _)
theorem k181 : SumOk Tryz.prog 181 (sM2C sqrK) := ok_sM2C zm_ok (.cons k22 h22 .nil) (z_sqr _)
theorem k90 : SumOk Tryz.prog 90 (sMZL [6] 2 joukK) := ok_sMZL zm_ok (.cons k81 h81 (.cons k181 h181 (.cons k179 h179 (.cons k84 h84 .nil)))) (z_jouk _ _ _ _)
theorem k98 : SumOk Tryz.prog 98 (sMZL [181] 1 mbackK) := ok_sMZL zm_ok (.cons k81 h81 (.cons k22 h22 (.cons k21 h21 (.cons k179 h179 .nil)))) (z_mback _ _ _ _)
theorem k99 : SumOk Tryz.prog 99 (sMZL [] 2 jbackK) := ok_sMZL zm_ok (.cons k39 h39 (.cons k22 h22 (.cons k21 h21 (.cons k84 h84 (.cons k86 h86 (.cons k188 h188 .nil)))))) (z_jback _ _ _ _ _ _)
theorem k95 : SumOk Tryz.prog 95 (sMZL [] 2 jotherK) := ok_sMZL zm_ok (.cons k99 h99 (.cons k181 h181 (.cons k179 h179 .nil))) (z_jother _ _ _)
theorem k26b : SumOk Tryz.prog 26 (sMZL [5, 6, 180] 2 at2K) := ok_sMZL zm_ok (.cons k17 h17 (.cons k79 h79 (.cons k90 h90 (.cons k93 h93 .nil))))
  fun R m a b k => (z_at2 chkK chk2P placeK joukK FiniteK R m a b k).trans (atL_told6 placeK joukK FiniteK chk2P_told R m a b k (zOk k)).symm
theorem k27a : SumOk Tryz.prog 27 (sBk false 1 [5, 6, 180, 181] bk1K) := ok_sBk zm_ok (.cons k17 h17 (.cons k79 h79 (.cons k98 h98 .nil)))
  fun R m a b k => (z_bk1 chkK chk2P placeK mbackK R m a b k).trans (atL_told181 placeK mbackK placeK chkK_told R m a b k (zOk k)).symm
theorem k27b : SumOk Tryz.prog 27 (sBk false 2 [5, 6, 180] bk2K) := ok_sBk zm_ok (.cons k17 h17 (.cons k79 h79 (.cons k99 h99 .nil)))
  fun R m a b k => (z_bk2 chkK chk2P placeK jbackK R m a b k).trans (atL_told0 placeK jbackK placeK chk2P_told R m a b k (zOk k)).symm
theorem k27c : SumOk Tryz.prog 27 (sBk true 2 [5, 6, 180] bk3K) := ok_sBk zm_ok (.cons k17 h17 (.cons k79 h79 (.cons k95 h95 .nil)))
  fun R m a b k => (z_bk3 chkK chk2P placeK jotherK R m a b k).trans (atL_told0 placeK jotherK placeK chk2P_told R m a b k (zOk k)).symm

theorem k26c : SumOk Tryz.prog 26 (sAt atK at2K) := by
  intro R args k r hr
  unfold sAt at hr
  split at hr
  · rename_i v a b
    obtain ⟨i, m, rfl, hx⟩ := oneM_some hr
    cases h0 : (i == 1) with
    | true => exact k26 R _ k r (by rw [h0] at hx; show (bif i == 1 then _ else _) = _; rw [h0]; exact hx)
    | false =>
      cases h1 : (i == 2) with
      | true => exact k26b R _ k r (by rw [h0, h1] at hx; show (bif i == 2 then _ else _) = _; rw [h1]; exact hx)
      | false => rw [h0, h1] at hx; cases hx
  · cases hr
theorem k27 : SumOk Tryz.prog 27 (sBack bk1K bk2K bk3K) := by
  intro R args k r hr
  unfold sBack at hr
  split at hr
  · rename_i v a b t
    obtain ⟨i, m, rfl, hx⟩ := oneM_some hr
    cases t with
    | true =>
      cases h1 : (i == 2) with
      | true => exact k27c R _ k r (by simp only [h1] at hx; show (bif true == true && i == 2 then _ else _) = _; rw [h1]; exact hx)
      | false => simp only [h1] at hx; cases hx
    | false =>
      cases h0 : (i == 1) with
      | true => exact k27a R _ k r (by simp only [h0] at hx; show (bif false == false && i == 1 then _ else _) = _; rw [h0]; exact hx)
      | false =>
        cases h1 : (i == 2) with
        | true => exact k27b R _ k r (by simp only [h0, h1] at hx; show (bif false == false && i == 2 then _ else _) = _; rw [h1]; exact hx)
        | false => simp only [h0, h1] at hx; cases hx
  · cases hr

theorem there_calls (f : Fr) (a p : G2) (w : World) : Calls Tryz.prog 4 ⟨[fv f, gv a, gv p]⟩ w fun e w' => e = .returned (.bool true) ∧ RowKit.Below w.heap.size w w' := by
  have hall : AllOk Tryz.prog [(14, sTrue), (24, sUp upG), (25, sOf ofG), (16, sFrB smallK), (15, sFrM frK), (26, sAt atK at2K), (27, sBack bk1K bk2K bk3K), (28, sCCFB nearK)] :=
    .cons k14 h14 (.cons k24 h24 (.cons k25 h25 (.cons k16 h16 (.cons k15 h15 (.cons k26c h26 (.cons k27 h27 (.cons k28 h28 .nil)))))))
  have e : evFn (cx Tryz.prog [(14, sTrue), (24, sUp upG), (25, sOf ofG), (16, sFrB smallK), (15, sFrM frK), (26, sAt atK at2K), (27, sBack bk1K bk2K bk3K), (28, sCCFB nearK)]) 80 4 [fv f, gv a, gv p] (fun v => match v with | .bool true => some () | _ => none) = some () := by
    rw [z_thereLaw]
    exact thereLawK_true f a p _
  obtain ⟨v, h1, _, h2⟩ := evFn_sound (cx_ok hall) zm_ok e rfl
  have : v = .bool true := by
    split at h1
    · rfl
    · cases h1
  subst this
  exact h2 w
end Go.Vm
