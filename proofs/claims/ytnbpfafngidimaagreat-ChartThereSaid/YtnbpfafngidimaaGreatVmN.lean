/- Summaries in place of calls; no conditions. -/
import Derived.Test.YtnbpfafngidimaaGreatVmM
import Derived.Test.YtnbpfafngidimaaGreatVmF0
namespace Go.Vm
set_option linter.unusedVariables false
set_option linter.unusedSimpArgs false

/-! ### Summaries in place of calls -/
def tab : List (Nat × Sum) → FuncId → Option Sum
  | [], _ => none
  | (n, s) :: r, f => bif Nat.beq n f then some s else tab r f

def cxf (fi : Fi) (P : Program) (l es : List (Nat × Sum)) : Cx := { P := P, sums := tab l, exts := tab es, meths := fun _ _ => none, wild := fun _ => false, fi := fi }
def cx (P : Program) (l : List (Nat × Sum)) : Cx := cxf fiReal P l []

def Has (P : Program) (f : FuncId) : Prop := ∃ fn c, P.funcs[f]? = some fn ∧ (fn.name == "runtime.NumGoroutine") = false ∧ fn.body = some c

inductive AllOk (P : Program) : List (Nat × Sum) → Prop
  | nil : AllOk P []
  | cons {f : Nat} {g : Sum} {r : List (Nat × Sum)} (h : SumOk P f g) (hf : Has P f) (hr : AllOk P r) : AllOk P ((f, g) :: r)

theorem tab_ok {P : Program} : ∀ {l : List (Nat × Sum)}, AllOk P l → ∀ f g, tab l f = some g → SumOk P f g ∧ Has P f
  | _, .nil, f, g, h => by simp [tab] at h
  | _, .cons (f := n) h hf hr, f, g, h' => by
    unfold tab at h'
    cases hb : Nat.beq n f with
    | true =>
      rw [hb] at h'
      cases h'
      rw [Nat.eq_of_beq_eq_true hb] at h hf
      exact ⟨h, hf⟩
    | false => rw [hb] at h'; exact tab_ok hr f g h'

theorem cx_ok {P : Program} {l : List (Nat × Sum)} (h : AllOk P l) : (cx P l).Ok where
  fair := fiReal_fair
  sums := fun f g hg => tab_ok h f g hg
  exts := fun f g hg => by cases hg
  meths := fun t s f hf => by cases hf

theorem sumOk_of {P : Program} {l : List (Nat × Sum)} (hm : P.follows .mixedOrders = true) (h : AllOk P l) {n : Nat} {f : FuncId} {g : Sum}
    (hg : ∀ (R : Type) (args : List Value) (k : Value → Option R) (r : R), g R args k = some r → inns 0 args = true ∧ evFn (cx P l) n f args k = some r) : SumOk P f g := by
  intro R args k r h1
  obtain ⟨h2, h3⟩ := hg R args k r h1
  exact ⟨h2, evFn_sound (cx_ok h) hm h3 h2⟩

/-! ### Shapes -/
/-- two complex numbers to one -/
abbrev KCCC := ∀ R : Type, Nat → Nat → Nat → Nat → (Nat → Nat → Option R) → Option R
abbrev KCC := ∀ R : Type, Nat → Nat → (Nat → Nat → Option R) → Option R
abbrev KCB := ∀ R : Type, Nat → Nat → (Bool → Option R) → Option R
abbrev KFB := ∀ R : Type, Nat → (Bool → Option R) → Option R
abbrev KFF := ∀ R : Type, Nat → (Nat → Option R) → Option R
abbrev KFFB := ∀ R : Type, Nat → Nat → (Bool → Option R) → Option R
abbrev KCCB := ∀ R : Type, Nat → Nat → Nat → Nat → (Bool → Option R) → Option R
abbrev KCFB := ∀ R : Type, Nat → Nat → Nat → (Bool → Option R) → Option R

def sCCC (g : KCCC) : Sum := fun R args k => match args with
  | [.complex .f64 a b, .complex .f64 c d] => g R a b c d fun x y => k (.complex .f64 x y)
  | _ => none
def sCC (g : KCC) : Sum := fun R args k => match args with
  | [.complex .f64 a b] => g R a b fun x y => k (.complex .f64 x y)
  | _ => none
def sCB (g : KCB) : Sum := fun R args k => match args with
  | [.complex .f64 a b] => g R a b fun t => forceB t fun t => k (.bool t)
  | _ => none
def sFF (g : KFF) : Sum := fun R args k => match args with
  | [.float .f64 a] => g R a fun x => k (.float .f64 x)
  | _ => none
def sFB (g : KFB) : Sum := fun R args k => match args with
  | [.float .f64 a] => g R a fun t => forceB t fun t => k (.bool t)
  | _ => none
def sFFB (g : KFFB) : Sum := fun R args k => match args with
  | [.float .f64 a, .float .f64 b] => g R a b fun t => forceB t fun t => k (.bool t)
  | _ => none
def sCCB (g : KCCB) : Sum := fun R args k => match args with
  | [.complex .f64 a b, .complex .f64 c d] => g R a b c d fun t => forceB t fun t => k (.bool t)
  | _ => none
def sCFB (g : KCFB) : Sum := fun R args k => match args with
  | [.complex .f64 a b, .float .f64 c] => g R a b c fun t => forceB t fun t => k (.bool t)
  | _ => none

section
variable {P : Program} {l : List (Nat × Sum)} {n : Nat} {f : FuncId}
theorem ok_sCCC {g : KCCC} (hm : P.follows .mixedOrders = true) (h : AllOk P l)
    (hg : ∀ (R : Type) a b c d (k : Value → Option R), evFn (cx P l) n f [.complex .f64 a b, .complex .f64 c d] k = g R a b c d fun x y => k (.complex .f64 x y)) : SumOk P f (sCCC g) :=
  sumOk_of hm h (n := n) fun R args k r hr => by
    unfold sCCC at hr; split at hr
    · exact ⟨rfl, by rw [hg]; exact hr⟩
    · cases hr
theorem ok_sCC {g : KCC} (hm : P.follows .mixedOrders = true) (h : AllOk P l)
    (hg : ∀ (R : Type) a b (k : Value → Option R), evFn (cx P l) n f [.complex .f64 a b] k = g R a b fun x y => k (.complex .f64 x y)) : SumOk P f (sCC g) :=
  sumOk_of hm h (n := n) fun R args k r hr => by
    unfold sCC at hr; split at hr
    · exact ⟨rfl, by rw [hg]; exact hr⟩
    · cases hr
theorem ok_sCB {g : KCB} (hm : P.follows .mixedOrders = true) (h : AllOk P l)
    (hg : ∀ (R : Type) a b (k : Value → Option R), evFn (cx P l) n f [.complex .f64 a b] k = g R a b fun t => k (.bool t)) : SumOk P f (sCB g) :=
  sumOk_of hm h (n := n) fun R args k r hr => by
    unfold sCB at hr; split at hr
    · exact ⟨rfl, by rw [hg]; simpa only [forceB_eq] using hr⟩
    · cases hr
theorem ok_sFF {g : KFF} (hm : P.follows .mixedOrders = true) (h : AllOk P l)
    (hg : ∀ (R : Type) a (k : Value → Option R), evFn (cx P l) n f [.float .f64 a] k = g R a fun x => k (.float .f64 x)) : SumOk P f (sFF g) :=
  sumOk_of hm h (n := n) fun R args k r hr => by
    unfold sFF at hr; split at hr
    · exact ⟨rfl, by rw [hg]; exact hr⟩
    · cases hr
theorem ok_sFB {g : KFB} (hm : P.follows .mixedOrders = true) (h : AllOk P l)
    (hg : ∀ (R : Type) a (k : Value → Option R), evFn (cx P l) n f [.float .f64 a] k = g R a fun t => k (.bool t)) : SumOk P f (sFB g) :=
  sumOk_of hm h (n := n) fun R args k r hr => by
    unfold sFB at hr; split at hr
    · exact ⟨rfl, by rw [hg]; simpa only [forceB_eq] using hr⟩
    · cases hr
theorem ok_sFFB {g : KFFB} (hm : P.follows .mixedOrders = true) (h : AllOk P l)
    (hg : ∀ (R : Type) a b (k : Value → Option R), evFn (cx P l) n f [.float .f64 a, .float .f64 b] k = g R a b fun t => k (.bool t)) : SumOk P f (sFFB g) :=
  sumOk_of hm h (n := n) fun R args k r hr => by
    unfold sFFB at hr; split at hr
    · exact ⟨rfl, by rw [hg]; simpa only [forceB_eq] using hr⟩
    · cases hr
theorem ok_sCCB {g : KCCB} (hm : P.follows .mixedOrders = true) (h : AllOk P l)
    (hg : ∀ (R : Type) a b c d (k : Value → Option R), evFn (cx P l) n f [.complex .f64 a b, .complex .f64 c d] k = g R a b c d fun t => k (.bool t)) : SumOk P f (sCCB g) :=
  sumOk_of hm h (n := n) fun R args k r hr => by
    unfold sCCB at hr; split at hr
    · exact ⟨rfl, by rw [hg]; simpa only [forceB_eq] using hr⟩
    · cases hr
theorem ok_sCFB {g : KCFB} (hm : P.follows .mixedOrders = true) (h : AllOk P l)
    (hg : ∀ (R : Type) a b c (k : Value → Option R), evFn (cx P l) n f [.complex .f64 a b, .float .f64 c] k = g R a b c fun t => k (.bool t)) : SumOk P f (sCFB g) :=
  sumOk_of hm h (n := n) fun R args k r hr => by
    unfold sCFB at hr; split at hr
    · exact ⟨rfl, by rw [hg]; simpa only [forceB_eq] using hr⟩
    · cases hr
end
end Go.Vm
