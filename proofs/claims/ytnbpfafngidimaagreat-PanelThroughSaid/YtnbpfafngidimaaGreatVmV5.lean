/- A part of the evaluator and of what is told of floats; no conditions. -/
import Derived.Test.YtnbpfafngidimaaGreatVmRD4
import Derived.Test.YtnbpfafngidimaaGreatVmV1
import Derived.Test.YtnbpfafngidimaaGreatVmZ9
import Derived.Test.YtnbpfafngidimaaGreatVmP7
import Derived.Test.YtnbpfafngidimaaGreatVmP29
namespace Go.Vm
open Go.Proofs
set_option linter.unusedVariables false
set_option linter.unusedSimpArgs false
set_option maxRecDepth 1000000

/-! ### Parts that may be no numbers -/
def enc (o : Option Nat) : Nat := match o with | none => 0 | some n => n + 1
def dec (p : Nat) : Option Nat := match p with | 0 => none | n + 1 => some n
theorem dec_enc (o : Option Nat) : dec (enc o) = o := by cases o <;> rfl
def cxO (p q : Option Nat) : Value := match p with
  | some x => (match q with | some y => .complex .f64 x y | none => .complex .f32 (x + 1) 0)
  | none => (match q with | some y => .complex .f32 0 (y + 1) | none => .complex .f32 0 0)
theorem partW_self (n : Nat) : partW (n + 1) n = true := by show Nat.beq n n = true; simp
theorem cxO_enc {ρ : Map} {p q : Option Nat} {v : Value} (h : VRel ρ (cxO p q) v) : VRel ρ (.complex .f32 (enc p) (enc q)) v := by
  cases p with
  | some x =>
    cases q with
    | some y =>
      have := h.flat_eq rfl
      subst this
      exact .cnan (partW_self x) (partW_self y)
    | none => exact h
  | none => cases q <;> exact h
theorem dec_word {p a : Nat} (h : partW p a = true) : (dec p = some a ∧ p = a + 1) ∨ (dec p = none ∧ nanW a = true) := by
  cases p with
  | zero => exact .inr ⟨rfl, h⟩
  | succ n =>
    have : n = a := Nat.eq_of_beq_eq_true h
    subst this
    exact .inl ⟨rfl, rfl⟩
theorem op_word {op : BinOp} {p q a b : Nat} (hp : partW p a = true) (hq : partW q b = true) : opO op (dec p) (dec q) = fbF op a b := by
  rcases dec_word hp with ⟨e, _⟩ | ⟨e, h⟩
  · rcases dec_word hq with ⟨e2, _⟩ | ⟨e2, h2⟩
    · rw [e, e2]; rfl
    · rw [e, e2, fbF_eq, nan_arith (.inr h2)]; rfl
  · rw [e, fbF_eq, nan_arith (.inl h)]; rfl
theorem op_word1 {op : BinOp} {q a b : Nat} (hq : partW q b = true) : opO op (some a) (dec q) = fbF op a b := by
  rcases dec_word hq with ⟨e2, _⟩ | ⟨e2, h2⟩
  · rw [e2]; rfl
  · rw [e2, fbF_eq, nan_arith (.inr h2)]; rfl
theorem op_word2 {op : BinOp} {p a b : Nat} (hp : partW p a = true) : opO op (dec p) (some b) = fbF op a b := by
  rcases dec_word hp with ⟨e2, _⟩ | ⟨e2, h2⟩
  · rw [e2]; rfl
  · rw [e2, fbF_eq, nan_arith (.inl h2)]; rfl
theorem fin_word {p a : Nat} (hp : partW p a = true) : finO (dec p) = leF (absW a) 9218868437227405311 := by
  rcases dec_word hp with ⟨e, _⟩ | ⟨e, h⟩
  · rw [e]; rfl
  · rw [e]
    unfold leF
    rw [nan_order (.inl (nanW_abs h))]
    rfl
/-- the machine's contracts -/
theorem args_flat {ρ : Map} {args args' : List Value} (h : VRels ρ args args') (hf : inns 0 args = true) : args' = args := h.flat_eq hf
theorem msum_map {P : Program} {f : FuncId} {g : Sum} (h : SumOk P f g) {φ : Value → Value} (hφ : ∀ ρ v, flat v = true → VRel ρ (φ v) v) : MSumOk P f (fun R args H k => g R args fun v => k (φ v) H) := fun R args H k r hr => by
  obtain ⟨h1, v, h2, h3, h4⟩ := h R args _ r hr
  refine ⟨φ v, H, h2, fun lo ρ w args' hi hlo ha => ?_⟩
  rw [args_flat ha h1]
  refine (h4 w).mono ?_
  rintro e w' ⟨rfl, hb⟩
  exact ⟨ρ, v, rfl, hφ ρ v h3, below_next hi hb⟩
def partsV (v : Value) : Value := match v with | .complex .f64 x y => .complex .f32 (x + 1) (y + 1) | v => v
theorem partsV_rel (ρ : Map) (v : Value) (h : flat v = true) : VRel ρ (partsV v) v := by
  unfold partsV
  split
  · exact .cnan (partW_self _) (partW_self _)
  · exact VRel.ofFlat ρ h
def mLg (g : KCC) : MSum := fun R args H k => sCC g R args fun v => k (partsV v) H
theorem mLg_ok {P : Program} {f : FuncId} {g : KCC} (h : SumOk P f (sCC g)) : MSumOk P f (mLg g) := msum_map h partsV_rel
def mTwo (g h : KCCC) : MSum := fun R args H k => match args with
  | [.complex .f64 a b, .complex .f64 c d] => g R a b c d fun x y => k (.complex .f64 x y) H
  | [.complex .f32 a b, .complex .f32 c d] => h R a b c d fun x y => k (.complex .f32 x y) H
  | _ => none
def mMul (g h : KCCC) : MSum := fun R args H k => match args with
  | [.complex .f64 a b, .complex .f64 c d] => g R a b c d fun x y => k (.complex .f64 x y) H
  | [.complex .f64 a b, .complex .f32 c d] => h R a b c d fun x y => k (.complex .f32 x y) H
  | _ => none
def mScl (h : KCFC) : MSum := fun R args H k => match args with
  | [.complex .f32 a b, .float .f64 s] => h R a b s fun x y => k (.complex .f32 x y) H
  | _ => none
def mFin (h : KCB) : MSum := fun R args H k => match args with
  | [.complex .f32 a b] => h R a b fun t => k (.bool t) H
  | _ => none
noncomputable def nnC : Cx := { uC fiReal [] [] [] with nn := true, nan1 := nanT }
theorem nnC_ok : nnC.Ok :=
  let h := uC_ok (l := []) .nil (gl := []) .nil (ml := []) .nil
  { fair := h.fair, sums := h.sums, exts := h.exts, meths := h.meths, hs := h.hs, nan1 := fun f hf => by
      have : f = 53 := Nat.eq_of_beq_eq_true hf
      subst this
      exact ⟨⟨Tryz.f53, _, Tryz.func53, by kernel_rfl, rfl⟩, nan53⟩, gs := h.gs, ms := h.ms, mg := h.mg, mm := h.mm }
theorem nn_sub (a b c d : Nat) (R : Type) (K : Ex → Env → Objs → Option R) : evTop nnC 100 noL 0 Tryz.f21.ntmps (codeOf 21) (enumE 0 [.complex .f64 a b, .complex .f64 c d]) ⟨0, []⟩ (takeC [4] [] K) =
    nnB .sub a c fun x => nnB .sub b d fun y => K .ret [(4, cxO x y)] [] := by kernel_rfl
theorem nn_mul (a b c d : Nat) (R : Type) (K : Ex → Env → Objs → Option R) : evTop nnC 100 noL 0 Tryz.f22.ntmps (codeOf 22) (enumE 0 [.complex .f64 a b, .complex .f64 c d]) ⟨0, []⟩ (takeC [4] [] K) =
    nnB .mul a c fun x => nnB .mul b d fun y => nnV .sub x y fun r => nnB .mul a d fun x => nnB .mul b c fun y => nnV .add x y fun i => K .ret [(4, cxO r i)] [] := by kernel_rfl
theorem nn_scl (a b s : Nat) (R : Type) (K : Ex → Env → Objs → Option R) : evTop nnC 100 noL 0 Tryz.f39.ntmps (codeOf 39) (enumE 0 [.complex .f64 a b, .float .f64 s]) ⟨0, []⟩ (takeC [4] [] K) =
    nnB .mul a s fun x => nnB .mul b s fun y => K .ret [(4, cxO x y)] [] := by kernel_rfl
theorem within_nil0 {H : AH} : Within (fun _ => none) ⟨0, []⟩ H where
  obj := fun j o h => by simp at h
  lt := fun j o h => by simp at h
  one := fun j o o' h _ => by simp at h
  inj := fun j j' k h _ => by simp at h
  dom := fun j k h => by simp at h
theorem nn_call {f : FuncId} {fn : Func} {args : List Value} {v : Value} (hf : Tryz.prog.funcs[f]? = some fn) (hb : fn.body = some (codeOf f)) (hL : loopsIn (codeOf f) = []) (hl : args.length ≤ fn.ntmps) (hr : resE Tryz.prog [(4, v)] ⟨0, []⟩ fn.results.toList = some [v])
    (h : evTop nnC 100 noL 0 fn.ntmps (codeOf f) (enumE 0 args) ⟨0, []⟩ (takeC [4] [] fun ex e O => some (ex, e, O)) = some (.ret, [(4, v)], [])) (ha : renL (fun _ => none) args = some args) (hv : ∀ p, renV p v = some v) (H : AH) : MemCall Tryz.prog f args H v H := by
  obtain ⟨H', hO, g⟩ := fun_mem (C := nnC) (H := ⟨0, []⟩) nnC_ok zm_ok hf hb (fun a h => by rw [hL] at h; cases h) hl h (.inr rfl) hr
  exact calls_lift (bs := []) (A := []) within_nil0 ha (hv _) (fun k o2 hm => by simp at hm) (fun j hj => by simp at hj) g
theorem cxO_ren (p : Nat → Option Nat) (x y : Option Nat) : renV p (cxO x y) = some (cxO x y) := by cases x <;> cases y <;> rfl
theorem nnB_eq {R : Type} {op : BinOp} {a b : Nat} {k : Option Nat → Option R} : nnB op a b k = k (fbF op a b) := by
  unfold nnB
  cases fbF op a b with
  | none => rfl
  | some n => simp only [forceN_eq]
theorem call21 (a b c d : Nat) (H : AH) : MemCall Tryz.prog 21 [.complex .f64 a b, .complex .f64 c d] H (cxO (fbF .sub a c) (fbF .sub b d)) H :=
  nn_call Tryz.func21 (by kernel_rfl) (by kernel_rfl) (Nat.le_of_ble_eq_true rfl) (by cases fbF .sub a c <;> cases fbF .sub b d <;> rfl) (by rw [nn_sub]; simp only [nnB_eq]) rfl (fun p => cxO_ren p _ _) H
def mulO (a b c d : Nat) : Option Nat × Option Nat := (opO .sub (fbF .mul a c) (fbF .mul b d), opO .add (fbF .mul a d) (fbF .mul b c))
theorem call22 (a b c d : Nat) (H : AH) : MemCall Tryz.prog 22 [.complex .f64 a b, .complex .f64 c d] H (cxO (mulO a b c d).1 (mulO a b c d).2) H :=
  nn_call Tryz.func22 (by kernel_rfl) (by kernel_rfl) (Nat.le_of_ble_eq_true rfl) (by cases (mulO a b c d).1 <;> cases (mulO a b c d).2 <;> rfl) (by rw [nn_mul]; simp only [nnB_eq, nnV_eq]; rfl) rfl (fun p => cxO_ren p _ _) H
theorem call39 (a b s : Nat) (H : AH) : MemCall Tryz.prog 39 [.complex .f64 a b, .float .f64 s] H (cxO (fbF .mul a s) (fbF .mul b s)) H :=
  nn_call Tryz.func39 (by kernel_rfl) (by kernel_rfl) (Nat.le_of_ble_eq_true rfl) (by cases fbF .mul a s <;> cases fbF .mul b s <;> rfl) (by rw [nn_scl]; simp only [nnB_eq]) rfl (fun p => cxO_ren p _ _) H
/-- what becomes of them -/
def subN : KCCC := fun R p q p' q' k => k (enc (opO .sub (dec p) (dec p'))) (enc (opO .sub (dec q) (dec q')))
def mulN : KCCC := fun R a b p q k => k (enc (opO .sub (opO .mul (some a) (dec p)) (opO .mul (some b) (dec q)))) (enc (opO .add (opO .mul (some a) (dec q)) (opO .mul (some b) (dec p))))
def sclN : KCFC := fun R p q s k => k (enc (opO .mul (dec p) (some s))) (enc (opO .mul (dec q) (some s)))
def finN : KCB := fun R p q k => k (finO (dec p) && finO (dec q))
theorem cnan_inv {ρ : Map} {p q : Nat} {v : Value} (h : VRel ρ (.complex .f32 p q) v) : ∃ a b, v = .complex .f64 a b ∧ partW p a = true ∧ partW q b = true := by
  cases h with
  | cnan h g => exact ⟨_, _, rfl, h, g⟩
theorem cx_inv {ρ : Map} {p q : Nat} {v : Value} (h : VRel ρ (.complex .f64 p q) v) : v = .complex .f64 p q := h.flat_eq rfl
theorem sum_msum {P : Program} {f : FuncId} {g : Sum} (h : SumOk P f g) {R : Type} {args : List Value} {H : AH} {k : Value → AH → Option R} {r : R} (hr : g R args (fun v => k v H) = some r) : ∃ v H', k v H' = some r ∧
    ∀ (lo : Nat) (ρ : Map) (w : World) (args' : List Value), Inv ρ H w → lo ≤ H.next → VRels ρ args args' → Calls P f ⟨args'⟩ w fun e w' => ∃ ρ' v', e = .returned v' ∧ VRel ρ' v v' ∧ Next lo ρ H w ρ' H' w' :=
  msum_map h (φ := id) (fun ρ v hv => VRel.ofFlat ρ hv) R args H k r hr
theorem m21 : MSumOk Tryz.prog 21 (mTwo subK subN) := fun R args H k r hr => by
  unfold mTwo at hr
  split at hr
  · exact sum_msum k21 hr
  · rename_i p q p' q'
    refine ⟨_, _, hr, fun lo ρ w args' hi hlo ha => ?_⟩
    obtain _ | ⟨h1, h2⟩ := ha
    obtain _ | ⟨h2, h3⟩ := h2
    cases h3
    obtain ⟨a, b, rfl, w1, w2⟩ := cnan_inv h1
    obtain ⟨c, d, rfl, w3, w4⟩ := cnan_inv h2
    refine (call21 a b c d H lo ρ w _ hi hlo (.cons (VRel.ofFlat ρ rfl) (.cons (VRel.ofFlat ρ rfl) .nil))).mono ?_
    rintro e w' ⟨ρ', v', rfl, g, hn⟩
    rw [op_word w1 w3, op_word w2 w4]
    exact ⟨ρ', v', rfl, cxO_enc g, hn⟩
  · cases hr
theorem m22 : MSumOk Tryz.prog 22 (mMul mulK mulN) := fun R args H k r hr => by
  unfold mMul at hr
  split at hr
  · exact sum_msum k22 hr
  · rename_i a b p q
    refine ⟨_, _, hr, fun lo ρ w args' hi hlo ha => ?_⟩
    obtain _ | ⟨h1, h2⟩ := ha
    obtain _ | ⟨h2, h3⟩ := h2
    cases h3
    have := cx_inv h1
    subst this
    obtain ⟨c, d, rfl, w3, w4⟩ := cnan_inv h2
    refine (call22 a b c d H lo ρ w _ hi hlo (.cons (VRel.ofFlat ρ rfl) (.cons (VRel.ofFlat ρ rfl) .nil))).mono ?_
    rintro e w' ⟨ρ', v', rfl, g, hn⟩
    rw [op_word1 w3, op_word1 w4, op_word1 w3, op_word1 w4]
    exact ⟨ρ', v', rfl, cxO_enc g, hn⟩
  · cases hr
theorem m39 : MSumOk Tryz.prog 39 (mScl sclN) := fun R args H k r hr => by
  unfold mScl at hr
  split at hr
  · rename_i p q s
    refine ⟨_, _, hr, fun lo ρ w args' hi hlo ha => ?_⟩
    obtain _ | ⟨h1, h2⟩ := ha
    obtain _ | ⟨h2, h3⟩ := h2
    cases h3
    have := h2.flat_eq rfl
    subst this
    obtain ⟨a, b, rfl, w1, w2⟩ := cnan_inv h1
    refine (call39 a b s H lo ρ w _ hi hlo (.cons (VRel.ofFlat ρ rfl) (.cons (VRel.ofFlat ρ rfl) .nil))).mono ?_
    rintro e w' ⟨ρ', v', rfl, g, hn⟩
    rw [op_word2 w1, op_word2 w2]
    exact ⟨ρ', v', rfl, cxO_enc g, hn⟩
  · cases hr
theorem m93 : MSumOk Tryz.prog 93 (mFin finN) := fun R args H k r hr => by
  unfold mFin at hr
  split at hr
  · rename_i p q
    refine ⟨_, _, hr, fun lo ρ w args' hi hlo ha => ?_⟩
    obtain _ | ⟨h1, h2⟩ := ha
    cases h2
    obtain ⟨a, b, rfl, w1, w2⟩ := cnan_inv h1
    have hk : sCB FiniteK Value [.complex .f64 a b] some = some (.bool (finO (dec p) && finO (dec q))) := by
      rw [fin_word w1, fin_word w2]
      show FiniteK Value a b (fun t => some (.bool t)) = _
      unfold FiniteK FiniteB finiteK finiteB absK
      simp only [forceB_eq]
      cases leF (absW a) 9218868437227405311 with
      | false => rfl
      | true => simp only [forceB_eq]; rfl
    obtain ⟨_, v, hv, hfl, hc⟩ := k93 Value _ _ _ hk
    cases hv
    refine (hc w).mono ?_
    rintro e w' ⟨rfl, hb⟩
    exact ⟨ρ, _, rfl, VRel.ofFlat ρ rfl, below_next hi hb⟩
  · cases hr
noncomputable def plC (cj : KCC) (lg : KCC) (sub mul sub' mul' : KCCC) (sc' : KCFC) (fn' : KCB) : Cx := uC fiReal [(124, sCC cj), (65, sPi2)] [] [(189, mLg lg), (21, mTwo sub sub'), (22, mMul mul mul'), (39, mScl sc'), (93, mFin fn')]
def plB (cj : KCC) (lg : KCC) (sub mul sub' mul' : KCCC) (sc' : KCFC) (fn' : KCB) {R : Type} (f1 f2 u1 u2 l z1 z2 : Nat) (er : Option R) (ok : Nat → Nat → Option R) : Option R :=
  cj R u1 u2 fun c1 c2 => sub R z1 z2 f1 f2 fun s1 s2 => mul R c1 c2 s1 s2 fun d1 d2 => bindF (fbF .add d2 0) fun y => lg R d1 y fun a1 a2 => bindF (fbF .sub d1 l) fun x => lg R x y fun b1 b2 =>
    sub' R (a1 + 1) (a2 + 1) (b1 + 1) (b2 + 1) fun v1 v2 => mul' R c1 c2 v1 v2 fun m1 m2 => sc' R m1 m2 4594902181429758083 fun r1 r2 => fn' R r1 r2 fun t => bif t then ok r1 r2 else er
theorem at_eq (cj : KCC) (lg : KCC) (sub mul sub' mul' : KCCC) (sc' : KCFC) (fn' : KCB) (R : Type) (f1 f2 t1 t2 s u1 u2 m1 m2 l z1 z2 : Nat) (K : Ex → Env → Objs → Option R) :
    evTop (plC cj lg sub mul sub' mul' sc' fn') 100 noL 0 Tryz.f147.ntmps (codeOf 147) (enumE 0 [pieceV f1 f2 t1 t2 s u1 u2 m1 m2 l, .complex .f64 z1 z2]) ⟨0, []⟩ (takeC [4, 5] [] K) =
    plB cj lg sub mul sub' mul' sc' fn' f1 f2 u1 u2 l z1 z2 (K .ret [(4, .complex .f64 0 0), (5, .int .i64 6)] []) fun x y => K .ret [(4, .complex .f32 x y), (5, .int .i64 0)] [] := by kernel_rfl
end Go.Vm
namespace Go.Vm
open Ieee
set_option linter.unusedVariables false
set_option linter.unusedSimpArgs false

/-! ### A source's speed -/
theorem quo_zero {a b r : Nat} {z : Rat} (hb : Is b 0) (h : fbF .quo a b = some r) (hr : Is r z) : False := by
  obtain ⟨_, t, n, j, hb, hv⟩ := hb
  have hn : n = 0 := by
    unfold dv at hv
    have p0 := p2_pos j
    rcases Nat.eq_zero_or_pos n with h | h
    · exact h
    · exfalso
      have : (0 : Rat) < (n : Rat) := by exact_mod_cast h
      have := Rat.mul_pos this p0
      unfold sg at hv
      split at hv <;> grind
  subst hn
  rw [fbF_eq] at h
  have h2 : ((double.read a).quotient (double.fractionBits + 2) (double.read b)).map double.write = some r := h
  rw [hb] at h2
  obtain ⟨_, s, m, i, hi, _⟩ := hr
  cases ha : double.read a with
  | nan s t => rw [ha] at h2; cases h2
  | infinity s' =>
    rw [ha] at h2
    simp only [Datum.quotient, Option.map_some, Option.some.injEq] at h2
    subst h2
    rw [write_inf] at hi
    cases hi
  | number s' m' i' =>
    rw [ha] at h2
    simp only [Datum.quotient, if_true] at h2
    split at h2
    · cases h2
    · simp only [Option.map_some, Option.some.injEq] at h2
      subst h2
      rw [write_inf] at hi
      cases hi
theorem abs_pos' {x : Rat} (h : x ≠ 0) : 0 < x.abs := by
  have := abs_le_self x
  grind
theorem small_999 {z : Rat} (h : z.abs ≤ 1000) : z.abs < (2 : Rat) ^ (999 : Int) := by
  have : (1000 : Rat) < (2 : Rat) ^ (10 : Int) := by rw [show (10 : Int) = ((10 : Nat) : Int) by rfl, p2_nat]; decide
  have := p2_le (show (10 : Int) ≤ 999 by decide)
  grind
theorem gz_quo {a b r j m : Nat} {x y z : Rat} (ha : Is a x) (gx : Gz j x) (hb : Is b y) (hy : y.abs ≤ (2 : Rat) ^ (m : Int)) (h : fbF .quo a b = some r) (hr : Is r z) (hz : z.abs ≤ 1000) (hk : j + m ≤ 900) : Gz (j + m + 1) z := by
  have hyn : y ≠ 0 := by rintro rfl; exact quo_zero hb h hr
  have hq : (x / y).abs * y.abs = x.abs := by
    rw [← abs_mul]
    congr 1
    rw [Rat.div_def, Rat.mul_assoc, Rat.inv_mul_cancel _ hyn, Rat.mul_one]
  obtain ⟨r', z', g1, g2, g3⟩ := div_is ha hb hyn (quo_small ha hb hyn h hr (small_999 hz))
  have e : r' = r := by rw [h] at g1; exact (Option.some.inj g1).symm
  subst e
  have : z' = z := is_fun g2 hr
  subst this
  have gz : Gz (j + m) (x / y) := by
    rcases gx with gx | gx
    · left; rw [gx, Rat.div_def]; grind
    · right
      refine Rat.le_of_mul_le_mul_right (c := (2 : Rat) ^ (m : Int)) ?_ (p2_pos _)
      rw [← p2_add, show -((j + m : Nat) : Int) + (m : Int) = -(j : Int) by omega]
      have := Rat.mul_le_mul_of_nonneg_left hy (abs_nonneg (x / y))
      grind
  exact gz_rnd2 hk gz g3
theorem bind_is {R : Type} {o : Option Nat} {k : Nat → Option R} {r : R} (h : bindF o k = some r) : ∃ w, o = some w ∧ k w = some r := by
  cases o with
  | none => cases h
  | some w => exact ⟨w, rfl, by rwa [bindF_eq rfl] at h⟩
theorem p2_7 : (2 : Rat) ^ ((7 : Nat) : Int) = 128 := by rw [p2_nat]; rfl
/-- the divisor's part in common -/
theorem gz_half {X : Rat} (g : Gz 1 X) (h0 : X ≠ 0) : 1 / 2 ≤ X.abs := by
  rcases g with g | g
  · exact absurd g h0
  · have e : (2 : Rat) ^ (-((1 : Nat) : Int)) = 1 / 2 := by
      have := p2_half 0
      rw [Rat.zpow_zero, show (0 - 1 : Int) = -1 by decide] at this
      rw [show (-((1 : Nat) : Int)) = -1 by decide]
      grind
    rw [e] at g
    exact g
theorem div_half {r s : Nat} {X Y : Rat} (ir : Is r X) (is_ : Is s Y) (gX : Gz 1 X) (gY : Gz 1 Y) (bX : X.abs ≤ 33) (bY : Y.abs ≤ 33) (hle : Y.abs ≤ X.abs) (h0 : X ≠ 0) :
    ∃ h, fbF .quo s r = some h ∧ Bg (1002 / 1000) 8 h ∧ (∀ t, bindF (fbF .mul s h) (fun sh => fbF .add r sh) = some t → Bv 70 t) ∧ (∀ t, bindF (fbF .mul s h) (fun sh => fbF .add sh r) = some t → Bv 70 t) := by
  have hX := gz_half gX h0
  have e6 : (2 : Rat) ^ ((6 : Nat) : Int) = 64 := by rw [p2_nat]; rfl
  obtain ⟨h, h1, h2⟩ := bg_quo (a := s) (b := r) (A := Y.abs) (D := X.abs) (Q := 1) (C := 1002 / 1000) (m := 6) (j := 1) ⟨Y, is_, Rat.le_refl, gY⟩ ir Rat.le_refl (by grind) (by rw [e6]; grind) (by grind) (by grind) (by grind) (by grind) (by decide)
  obtain ⟨sh, s1, s2⟩ := bw_mul (A := 33) (B := 1002 / 1000) (C := 34) ⟨Y, is_, bY⟩ (h2.bv.mono (by grind)) (by grind) (by grind)
  obtain ⟨t, t1, t2⟩ := bw_add (A := 33) (B := 34) (C := 70) ⟨X, ir, bX⟩ s2 (by grind) (by grind)
  obtain ⟨t', t1', t2'⟩ := bw_add (A := 34) (B := 33) (C := 70) s2 ⟨X, ir, bX⟩ (by grind) (by grind)
  refine ⟨h, h1, h2.mono (by grind) (by decide), fun u hu => ?_, fun u hu => ?_⟩
  · rw [bindF_eq s1, t1] at hu
    cases hu
    exact t2
  · rw [bindF_eq s1, t1'] at hu
    cases hu
    exact t2'
theorem div_gran {a b c d : Nat} {X Y : Rat} (ia : Bg 3 4 a) (ib : Bg 3 4 b) (ir : Is c X) (is_ : Is d Y) (gX : Gz 1 X) (gY : Gz 1 Y) (bX : X.abs ≤ 33) (bY : Y.abs ≤ 33) (h0 : X ≠ 0 ∨ Y ≠ 0) :
    ∃ w1 w2, Bg 13 76 w1 ∧ Bg 13 76 w2 ∧ ∀ (R : Type) (k : Nat → Nat → Option R), divK R a b c d k = k w1 w2 := by
  obtain ⟨p, ip, bp, gp'⟩ := ia
  obtain ⟨q, iq, bq, gq⟩ := ib
  have e7 : (2 : Rat) ^ ((7 : Nat) : Int) = 128 := p2_7
  -- that all comes, and how great
  have near : ∀ {W : Rat}, X.abs ≤ W → Y.abs ≤ W → (W = X.abs ∨ W = Y.abs) → 1 / 2 ≤ W → ∃ w1 w2 U V, Is w1 U ∧ Is w2 V ∧ U.abs ≤ 13 ∧ V.abs ≤ 13 ∧ ∀ (R : Type) (k : Nat → Nat → Option R), divK R a b c d k = k w1 w2 := fun {W} hr hs hW W1 => by
    have hW0 : 0 < W := by grind
    have hWW := Rat.mul_pos hW0 hW0
    have hN : W * W ≤ X * X + Y * Y := by
      have s1 := sq_nonneg X
      have s2 := sq_nonneg Y
      rcases hW with h | h
      · have := sq_ge (x := X) (m := W) (by rw [h]; exact Rat.le_refl) (Rat.le_of_lt hW0); grind
      · have := sq_ge (x := Y) (m := W) (by rw [h]; exact Rat.le_refl) (Rat.le_of_lt hW0); grind
    have hN0 : X * X + Y * Y ≠ 0 := by grind
    generalize hNN : X * X + Y * Y = N at *
    have k1 : ∀ m : Rat, m / N * N = m := fun m => by rw [Rat.div_def, Rat.mul_assoc, Rat.inv_mul_cancel _ hN0, Rat.mul_one]
    have bound : ∀ {m : Rat}, m.abs ≤ 6 * W → (m / N).abs ≤ 12 := fun {m} hm => by
      have hNa : N.abs = N := Rat.abs_of_nonneg (by grind)
      have h1 : (m / N).abs * N.abs = m.abs := by rw [← abs_mul, k1]
      rw [hNa] at h1
      have h2 : (m / N).abs * (W * W) ≤ 6 * W := by
        have := Rat.mul_le_mul_of_nonneg_left hN (abs_nonneg (m / N))
        grind
      have h3 : (m / N).abs * W ≤ 6 := Rat.le_of_mul_le_mul_right (c := W) (by grind) hW0
      have := Rat.mul_le_mul_of_nonneg_left W1 (abs_nonneg (m / N))
      grind
    have cr : ∀ {m n e f : Rat}, m.abs ≤ 3 → n.abs ≤ 3 → e.abs ≤ W → f.abs ≤ W → (m * e + n * f).abs ≤ 6 * W := fun {m n e f} h1 h2 h3 h4 => by
      have g1 := mul_mono' h1 h3 (abs_nonneg e) (show (0 : Rat) ≤ 3 by decide)
      have g2 := mul_mono' h2 h4 (abs_nonneg f) (show (0 : Rat) ≤ 3 by decide)
      rw [← abs_mul] at g1 g2
      have := abs_add_le (m * e) (n * f)
      grind
    have hu := bound (cr bp bq hr hs)
    have hv := bound (cr bq (show (-p).abs ≤ _ by rw [abs_neg]; exact bp) hr hs)
    have hN1 : 0 < N := by grind
    have hp : p = (p * X + q * Y) / N * X - (q * X + -p * Y) / N * Y := by
      have e : ((p * X + q * Y) / N * X - (q * X + -p * Y) / N * Y) * N = p * N := by
        have a1 := k1 (p * X + q * Y)
        have a2 := k1 (q * X + -p * Y)
        generalize (p * X + q * Y) / N = g at *
        generalize (q * X + -p * Y) / N = f at *
        have : (g * X - f * Y) * N = (g * N) * X - (f * N) * Y := by grind
        rw [this, a1, a2, ← hNN]
        grind
      exact Rat.le_antisymm (Rat.le_of_mul_le_mul_right (by rw [e]; exact Rat.le_refl) hN1) (Rat.le_of_mul_le_mul_right (by rw [e]; exact Rat.le_refl) hN1)
    have hq : q = (p * X + q * Y) / N * Y + (q * X + -p * Y) / N * X := by
      have e : ((p * X + q * Y) / N * Y + (q * X + -p * Y) / N * X) * N = q * N := by
        have a1 := k1 (p * X + q * Y)
        have a2 := k1 (q * X + -p * Y)
        generalize (p * X + q * Y) / N = g at *
        generalize (q * X + -p * Y) / N = f at *
        have : (g * Y + f * X) * N = (g * N) * Y + (f * N) * X := by grind
        rw [this, a1, a2, ← hNN]
        grind
      exact Rat.le_antisymm (Rat.le_of_mul_le_mul_right (by rw [e]; exact Rat.le_refl) hN1) (Rat.le_of_mul_le_mul_right (by rw [e]; exact Rat.le_refl) hN1)
    have p300 : (2 : Rat) ^ (-300 : Int) ≤ 1 / 1000 := p2_small (by decide)
    have P300 : (100 : Rat) ≤ (2 : Rat) ^ (300 : Int) := by
      have : (100 : Rat) ≤ (2 : Rat) ^ ((7 : Nat) : Int) := by rw [e7]; grind
      exact Rat.le_trans this (p2_le (by decide))
    have hWb : W ≤ 33 := by rcases hW with h | h <;> grind
    obtain ⟨o1, o2, U, V, j1, j2, d1, d2, heq⟩ := divK_near ip iq ir is_ hr hs hW (by grind) (by grind) hu hv (by grind) (by grind) hp hq
    have he := eps_le
    have f1 := abs_near d1
    have f2 := abs_near d2
    exact ⟨o1, o2, U, V, j1, j2, by grind, by grind, heq⟩
  have hdef : ∀ (R : Type) (k : Nat → Nat → Option R), divK R a b c d k = forceB (geF (absW c) (absW d)) fun t => match t with
    | true => bindF (fbF .quo d c) fun h => bindF (fbF .mul d h) fun sh => bindF (fbF .add c sh) fun t =>
        bindF (fbF .mul b h) fun qh => bindF (fbF .add a qh) fun n1 => bindF (fbF .quo n1 t) fun re =>
        bindF (fbF .mul a h) fun ph => bindF (fbF .sub b ph) fun n2 => bindF (fbF .quo n2 t) fun im => k re im
    | false => bindF (fbF .quo c d) fun h => bindF (fbF .mul c h) fun rh => bindF (fbF .add rh d) fun t =>
        bindF (fbF .mul a h) fun ph => bindF (fbF .add ph b) fun n1 => bindF (fbF .quo n1 t) fun re =>
        bindF (fbF .mul b h) fun qh => bindF (fbF .sub qh a) fun n2 => bindF (fbF .quo n2 t) fun im => k re im := fun R k => rfl
  have A : Bg 3 13 a := ⟨p, ip, bp, gp'.mono (by decide)⟩
  have B : Bg 3 13 b := ⟨q, iq, bq, gq.mono (by decide)⟩
  have quo : ∀ {n t r : Nat} {z : Rat}, Bg 7 66 n → Bv 70 t → fbF .quo n t = some r → Is r z → z.abs ≤ 13 → Bg 13 76 r := fun {n t r z} hn ht h hr hz => by
    obtain ⟨x, i1, i2, i3⟩ := hn
    obtain ⟨y, j1, j2⟩ := ht
    exact ⟨z, hr, hz, (gz_quo (m := 7) i1 i3 j1 (by rw [e7]; grind) h hr (by grind) (by decide)).mono (by decide)⟩
  by_cases hc : Y.abs ≤ X.abs
  · have hX0 : X ≠ 0 := by
      rintro rfl
      rw [abs_zero] at hc
      have := abs_nonneg Y
      have hY : Y.abs = 0 := by grind
      rcases h0 with h | h
      · exact h rfl
      · have := abs_pos' h; grind
    obtain ⟨w1, w2, U, V, j1, j2, b1, b2, heq⟩ := near Rat.le_refl hc (.inl rfl) (gz_half gX hX0)
    obtain ⟨h, h1, h2, ht, _⟩ := div_half ir is_ gX gY bX bY hc hX0
    have e := (hdef (Nat × Nat) fun x y => some (x, y)).symm.trans (heq (Nat × Nat) fun x y => some (x, y))
    rw [forceB_eq, geF_is (abs_is ir) (abs_is is_), decide_eq_true hc] at e
    simp only at e
    obtain ⟨h', g1, e⟩ := bind_is e
    rw [h1] at g1; cases g1
    obtain ⟨sh, g2, e⟩ := bind_is e
    obtain ⟨t, g3, e⟩ := bind_is e
    have bt := ht t (by rw [bindF_eq g2, g3])
    obtain ⟨qh, g4, e⟩ := bind_is e
    obtain ⟨n1, g5, e⟩ := bind_is e
    obtain ⟨re, g6, e⟩ := bind_is e
    obtain ⟨ph, g7, e⟩ := bind_is e
    obtain ⟨n2, g8, e⟩ := bind_is e
    obtain ⟨im, g9, e⟩ := bind_is e
    cases e
    have iB : Bg 3 4 b := ⟨q, iq, bq, gq⟩
    have iA : Bg 3 4 a := ⟨p, ip, bp, gp'⟩
    obtain ⟨qh', q1, q2⟩ := bg_mul iB h2 (C := 302 / 100) (by grind) (by grind) (by decide)
    rw [g4] at q1; cases q1
    obtain ⟨n1', q3, q4⟩ := bg_add A q2 (C := 7) (by grind) (by grind) (by decide)
    rw [g5] at q3; cases q3
    obtain ⟨ph', q5, q6⟩ := bg_mul iA h2 (C := 302 / 100) (by grind) (by grind) (by decide)
    rw [g7] at q5; cases q5
    obtain ⟨n2', q7, q8⟩ := bg_sub B q6 (C := 7) (by grind) (by grind) (by decide)
    rw [g8] at q7; cases q7
    exact ⟨_, _, quo q4 bt g6 j1 b1, quo q8 bt g9 j2 b2, heq⟩
  · have hc' : X.abs ≤ Y.abs := by grind
    have hY0 : Y ≠ 0 := by
      rintro rfl
      rw [abs_zero] at hc
      have := abs_nonneg X
      grind
    obtain ⟨w1, w2, U, V, j1, j2, b1, b2, heq⟩ := near hc' Rat.le_refl (.inr rfl) (gz_half gY hY0)
    obtain ⟨h, h1, h2, _, ht⟩ := div_half is_ ir gY gX bY bX hc' hY0
    have e := (hdef (Nat × Nat) fun x y => some (x, y)).symm.trans (heq (Nat × Nat) fun x y => some (x, y))
    rw [forceB_eq, geF_is (abs_is ir) (abs_is is_), decide_eq_false hc] at e
    simp only at e
    obtain ⟨h', g1, e⟩ := bind_is e
    rw [h1] at g1; cases g1
    obtain ⟨sh, g2, e⟩ := bind_is e
    obtain ⟨t, g3, e⟩ := bind_is e
    have bt := ht t (by rw [bindF_eq g2, g3])
    obtain ⟨ph, g4, e⟩ := bind_is e
    obtain ⟨n1, g5, e⟩ := bind_is e
    obtain ⟨re, g6, e⟩ := bind_is e
    obtain ⟨qh, g7, e⟩ := bind_is e
    obtain ⟨n2, g8, e⟩ := bind_is e
    obtain ⟨im, g9, e⟩ := bind_is e
    cases e
    have iB : Bg 3 4 b := ⟨q, iq, bq, gq⟩
    have iA : Bg 3 4 a := ⟨p, ip, bp, gp'⟩
    obtain ⟨ph', q1, q2⟩ := bg_mul iA h2 (C := 302 / 100) (by grind) (by grind) (by decide)
    rw [g4] at q1; cases q1
    obtain ⟨n1', q3, q4⟩ := bg_add q2 B (C := 7) (by grind) (by grind) (by decide)
    rw [g5] at q3; cases q3
    obtain ⟨qh', q5, q6⟩ := bg_mul iB h2 (C := 302 / 100) (by grind) (by grind) (by decide)
    rw [g7] at q5; cases q5
    obtain ⟨n2', q7, q8⟩ := bg_sub q6 A (C := 7) (by grind) (by grind) (by decide)
    rw [g8] at q7; cases q7
    exact ⟨_, _, quo q4 bt g6 j1 b1, quo q8 bt g9 j2 b2, heq⟩
end Go.Vm
namespace Go.Vm
open Go.Proofs
set_option linter.unusedVariables false
set_option linter.unusedSimpArgs false

/-! ### Streams and sources of whole numbers: their speeds -/
/-- a word of a whole number from -16 to 16 -/
def W16 (w : Nat) : Prop := ∃ n : Int, n.natAbs ≤ 16 ∧ Is w ((n : Int) : Rat)
structure ElOk (x : El) : Prop where
  s1 : W16 x.s1
  s2 : W16 x.s2
  a1 : W16 x.a1
  a2 : W16 x.a2
  p : x.p = 0
  kind : (x.kind = 1 ∧ x.a1 = 0 ∧ x.a2 = 0) ∨ x.kind = 2
theorem w16_hv {w : Nat} (h : W16 w) : ∃ n : Int, n.natAbs ≤ 32 ∧ Hv w n := by
  obtain ⟨n, h1, h2⟩ := h
  refine ⟨2 * n, by omega, ?_⟩
  unfold Hv
  have : ((2 * n : Int) : Rat) / 2 = (n : Rat) := by push_cast; rw [Rat.div_def]; grind
  rw [this]
  exact h2
theorem w16_bg {w : Nat} (h : W16 w) : Bg 16 0 w := by
  obtain ⟨n, h1, h2⟩ := h
  refine ⟨n, h2, by have := int_abs_le (N := 16) (n := n) (by omega); simpa using this, ?_⟩
  have := gz_int (K := n) (m := 0)
  have e : (2 : Rat) ^ (-((0 : Nat) : Int)) = 1 := by rw [show (-((0 : Nat) : Int)) = ((0 : Nat) : Int) by decide, p2_nat]; rfl
  rw [e, Rat.mul_one] at this
  exact this
theorem w16_place {a b : Nat} (h1 : W16 a) (h2 : W16 b) {R : Type} (k : Bool → Option R) : placeK R a b k = k true := by
  obtain ⟨m, m1, m2⟩ := w16_hv h1
  obtain ⟨n, n1, n2⟩ := w16_hv h2
  unfold placeK placeB
  show WithinK R a b _ _ = _
  rw [hv_Within m2 n2 (by omega) (by omega), forceB_eq]
theorem hv_place {a b : Nat} {m n : Int} (h1 : Hv a m) (h2 : Hv b n) (hm : m.natAbs ≤ 500) (hn : n.natAbs ≤ 500) {R : Type} (k : Bool → Option R) : placeK R a b k = k true := by
  unfold placeK placeB
  show WithinK R a b _ _ = _
  rw [hv_Within h1 h2 hm hn, forceB_eq]
theorem eqF_zero (R : Type) (k : Bool → Option R) : noughtK R 0 0 k = k true := by
  unfold noughtK
  rw [forceB_eq, show eqF 0 0 = true by decide]
  simp only
  rw [forceB_eq]
theorem within_zero {R : Type} (k : Bool → Option R) : withinK R 0 4787326403894837248 k = k true :=
  hv_within (a := 0) (x := 0) (by unfold Hv; have := is0; rwa [show ((0 : Int) : Rat) / 2 = 0 by rw [Rat.div_def]; simp]) (by decide) k
theorem w16_zero : W16 0 := ⟨0, by decide, is_zero⟩
theorem eqz00 : eqF 0 0 = true := by decide
theorem told_el {x : El} (h : ElOk x) : Told (fun _ => 0) x := fun R k => by
  have hp := h.p
  have e1 : ∀ (R : Type) (k : Bool → Option R), placeK R x.s1 x.s2 k = k true := fun R k => w16_place h.s1 h.s2 k
  have e2 : ∀ (R : Type) (k : Bool → Option R), placeK R x.a1 x.a2 k = k true := fun R k => w16_place h.a1 h.a2 k
  have e3 : ∀ (R : Type) (k : Bool → Option R), placeK R 0 0 k = k true := fun R k => w16_place w16_zero w16_zero k
  unfold checkK checkB
  rcases h.kind with ⟨hk, z1, z2⟩ | hk
  · simp only [hk, hp, forceB_eq, e1, e2, within_zero, show decide ((1 : Int) < 1) = false from rfl, show decide ((1 : Int) > 4) = false from rfl, show ((1 : Int) == 1) = true from rfl, z1, z2, eqF_zero, eqz00, e3]
  · simp only [hk, hp, forceB_eq, e1, e2, within_zero, show decide ((2 : Int) < 1) = false from rfl, show decide ((2 : Int) > 4) = false from rfl, show ((2 : Int) == 1) = false from rfl, show ((2 : Int) == 2) = true from rfl, eqz00]
/-- a speed, or none -/
def SpOut (B : Rat) (m : Nat) (x y : Nat) (e : Int) : Prop := (e = 0 ∧ Bg B m x ∧ Bg B m y) ∨ (e = 6 ∧ x = 0 ∧ y = 0)
noncomputable def spVK : KSpV := fun R kind a1 a2 s1 s2 p z1 z2 k =>
  bif kind == 1 && Nat.beq p 0 then spSK R a1 a2 s1 s2 z1 z2 (fun e => k 0 0 e) (fun x y => k x y 0)
  else bif kind == 2 && Nat.beq p 0 then spOK R a1 a2 s1 s2 z1 z2 (fun e => k 0 0 e) (fun x y => k x y 0)
  else none
theorem told_fin {R : Type} {x y : Nat} (hx : Fin x) (hy : Fin y) (er : Int → Option R) (k : Nat → Nat → Option R) : toldE FiniteK er k x y = k x y := by
  unfold toldE
  rw [FiniteK_yes (vl_is hx) (vl_is hy), forceB_eq]
theorem half_gz {m : Int} : Gz 1 ((m : Rat) / 2) := by
  have := gz_int (K := m) (m := 1)
  have e : (2 : Rat) ^ (-((1 : Nat) : Int)) = 1 / 2 := by
    have := p2_half 0
    rw [Rat.zpow_zero, show (0 - 1 : Int) = -1 by decide] at this
    rw [show (-((1 : Nat) : Int)) = -1 by decide]
    grind
  rw [e] at this
  have e2 : (m : Rat) / 2 = (m : Rat) * (1 / 2) := by rw [Rat.div_def, Rat.div_def]; grind
  rw [e2]
  exact this
theorem tau_bg : Bg (1592 / 10000) 3 4594902181429758083 := by
  obtain ⟨x, h1, h2⟩ := tau_bv
  refine ⟨x, h1, h2, .inr ?_⟩
  have hi := fields_is (s := false) (E := 1020) (f := 4594902181429758083 - 1020 * 2 ^ 52) (by decide) (by decide) (by decide)
  obtain ⟨d1, d2⟩ := dv_band (s := false) (E := 1020) (f := 4594902181429758083 - 1020 * 2 ^ 52) (by decide)
  have : x = dv false (2 ^ 52 + (4594902181429758083 - 1020 * 2 ^ 52)) (((1020 : Nat) : Int) - 1075) := is_fun h1 (by simpa using hi)
  rw [this]
  exact d1
theorem el_out {x : El} (h : ElOk x) {z1 z2 : Nat} {m n : Int} (h1 : Hv z1 m) (h2 : Hv z2 n) (hm : m.natAbs ≤ 32) (hn : n.natAbs ≤ 32) :
    ∃ a b e, SpOut 16 76 a b e ∧ ∀ (R : Type) (k : Nat → Nat → Int → Option R), spVK R x.kind x.a1 x.a2 x.s1 x.s2 x.p z1 z2 k = k a b e := by
  have ht := told_el h
  obtain ⟨p, p1, p2⟩ := w16_hv h.a1
  obtain ⟨q, q1, q2⟩ := w16_hv h.a2
  obtain ⟨d1, f1, g1⟩ := hv_sub h1 p2 (by omega) (by omega)
  obtain ⟨d2, f2, g2⟩ := hv_sub h2 q2 (by omega) (by omega)
  have hp := h.p
  rcases h.kind with ⟨hk, y1, y2⟩ | hk
  · refine ⟨x.s1, x.s2, 0, .inl ⟨rfl, (w16_bg h.s1).mono (by grind) (by decide), (w16_bg h.s2).mono (by grind) (by decide)⟩, fun R k => ?_⟩
    have ht' : ∀ (k : Int → Option R), checkK R 1 x.a1 x.a2 x.s1 x.s2 0 k = k 0 := fun k => by have := ht R k; rw [hk, hp] at this; exact this
    unfold spVK
    rw [hk, hp, show (((1 : Int) == 1) && Nat.beq 0 0) = true from rfl, cond_true]
    unfold spSK spS
    rw [ht', show decide ((0 : Int) = 0) = true from rfl]
    simp only
    rw [hv_place h1 h2 (by omega) (by omega), forceB_eq]
    simp only
    unfold subK
    simp only [bindF_eq f1, bindF_eq f2]
    have hno : ∀ (b : Bool), noughtK Bool d1 d2 some = some b → noughtK R d1 d2 (fun t => forceB t fun t => match t with
        | true => toldE FiniteK (fun e => k 0 0 e) (fun x y => k x y 0) x.s1 x.s2
        | false => toldE FiniteK (fun e => k 0 0 e) (fun x y => k x y 0) x.s1 x.s2) = k x.s1 x.s2 0 := fun b hb => by
      have := told_fin (R := R) (w16_bg h.s1).bv.fin (w16_bg h.s2).bv.fin (fun e => k 0 0 e) (fun x y => k x y 0)
      unfold noughtK
      rw [forceB_eq]
      cases eqF d1 0 with
      | false => simp only [forceB_eq]; exact this
      | true =>
        simp only [forceB_eq]
        cases eqF d2 0 with
        | false => exact this
        | true => exact this
    have : ∃ b, noughtK Bool d1 d2 some = some b := by
      unfold noughtK
      rw [forceB_eq]
      cases eqF d1 0 with
      | false => exact ⟨_, rfl⟩
      | true => simp only [forceB_eq]; exact ⟨_, rfl⟩
    obtain ⟨b, hb⟩ := this
    exact hno b hb
  · have ht' : ∀ (R : Type) (k : Int → Option R), checkK R 2 x.a1 x.a2 x.s1 x.s2 0 k = k 0 := fun R k => by have := ht R k; rw [hk, hp] at this; exact this
    obtain ⟨c1, i1, j1⟩ := bg_mul (w16_bg h.s1) tau_bg (C := 3) (by grind) (by grind) (by decide)
    obtain ⟨c2, i2, j2⟩ := bg_mul (w16_bg h.s2) tau_bg (C := 3) (by grind) (by grind) (by decide)
    have b33 : ∀ {m : Int}, m.natAbs ≤ 64 → ((m : Rat) / 2).abs ≤ 33 := fun {m} hm => Rat.le_trans (hv_abs (N := 64) (B := 32) hm (by norm_cast)) (by grind)
    have start : ∀ (R : Type) (k : Nat → Nat → Int → Option R), spVK R x.kind x.a1 x.a2 x.s1 x.s2 x.p z1 z2 k = forceB (eqF d1 0) fun t => match t with
        | true => forceB (eqF d2 0) fun t => forceB t fun t => (match t with
          | true => k 0 0 6
          | false => divK R c1 c2 d1 d2 (toldE FiniteK (fun e => k 0 0 e) (fun x y => k x y 0)))
        | false => divK R c1 c2 d1 d2 (toldE FiniteK (fun e => k 0 0 e) (fun x y => k x y 0)) := fun R k => by
      unfold spVK
      rw [hk, hp, show (((2 : Int) == 1) && Nat.beq 0 0) = false from rfl, cond_false, show (((2 : Int) == 2) && Nat.beq 0 0) = true from rfl, cond_true]
      unfold spOK spO
      rw [ht', show decide ((0 : Int) = 0) = true from rfl]
      simp only
      rw [hv_place h1 h2 (by omega) (by omega), forceB_eq]
      simp only
      unfold sclK subK
      simp only [bindF_eq f1, bindF_eq f2, bindF_eq i1, bindF_eq i2]
      unfold noughtK
      simp only [forceB_eq]
      cases eqF d1 0 <;> rfl
    by_cases h0 : m - p = 0 ∧ n - q = 0
    · refine ⟨0, 0, 6, .inr ⟨rfl, rfl, rfl⟩, fun R k => ?_⟩
      have e1 : eqF d1 0 = true := by rw [eqF_is g1 is0, h0.1]; exact decide_eq_true (by rw [Rat.div_def]; simp)
      have e2 : eqF d2 0 = true := by rw [eqF_is g2 is0, h0.2]; exact decide_eq_true (by rw [Rat.div_def]; simp)
      rw [start, e1, e2]
      simp only [forceB_eq]
    · have nz : ∀ {m : Int}, m ≠ 0 → ((m : Rat) / 2) ≠ 0 := fun {m} hm h => by
        have := half_abs hm
        rw [h, abs_zero] at this
        grind
      obtain ⟨w1, w2, v1, v2, hd⟩ := div_gran j1 j2 g1 g2 half_gz half_gz (b33 (by omega)) (b33 (by omega)) (by
        by_cases h1 : m - p = 0
        · exact .inr (nz fun h2 => h0 ⟨h1, h2⟩)
        · exact .inl (nz h1))
      refine ⟨w1, w2, 0, .inl ⟨rfl, v1.mono (by grind) (by decide), v2.mono (by grind) (by decide)⟩, fun R k => ?_⟩
      rw [start, hd, told_fin v1.bv.fin v2.bv.fin]
      by_cases h1 : m - p = 0
      · have e1 : eqF d1 0 = true := by rw [eqF_is g1 is0, h1]; exact decide_eq_true (by rw [Rat.div_def]; simp)
        have e2 : eqF d2 0 = false := by rw [eqF_is g2 is0]; exact decide_eq_false (nz fun h2 => h0 ⟨h1, h2⟩)
        rw [e1, e2]
        simp only [forceB_eq]
      · have e1 : eqF d1 0 = false := by rw [eqF_is g1 is0]; exact decide_eq_false (nz h1)
        rw [e1]
        simp only [forceB_eq]
/-- the sum of at most four -/
theorem sum_out : ∀ (l : List (Nat × Nat)), l.length ≤ 4 → (∀ p ∈ l, Bg 16 76 p.1 ∧ Bg 16 76 p.2) → ∃ x y, Bg 70 235 x ∧ Bg 70 235 y ∧ ∀ (R : Type) (k : Nat → Nat → Option R), sumKK addK l k = k x y
  | [], _, _ => ⟨0, 0, ⟨0, is0, by rw [abs_zero]; grind, .inl rfl⟩, ⟨0, is0, by rw [abs_zero]; grind, .inl rfl⟩, fun R k => rfl⟩
  | [(a, b)], _, h => by
    obtain ⟨h1, h2⟩ := h (a, b) (by simp)
    exact ⟨a, b, h1.mono (by grind) (by decide), h2.mono (by grind) (by decide), fun R k => rfl⟩
  | [(a, b), (c, d)], _, h => by
    obtain ⟨h1, h2⟩ := h (a, b) (by simp)
    obtain ⟨h3, h4⟩ := h (c, d) (by simp)
    obtain ⟨x, x1, x2⟩ := bg_add h1 h3 (C := 33) (by grind) (by grind) (by decide)
    obtain ⟨y, y1, y2⟩ := bg_add h2 h4 (C := 33) (by grind) (by grind) (by decide)
    refine ⟨x, y, x2.mono (by grind) (by decide), y2.mono (by grind) (by decide), fun R k => ?_⟩
    simp only [sumKK, foldK, addK, bindF_eq x1, bindF_eq y1]
  | [(a, b), (c, d), (e, f)], _, h => by
    obtain ⟨h1, h2⟩ := h (a, b) (by simp)
    obtain ⟨h3, h4⟩ := h (c, d) (by simp)
    obtain ⟨h5, h6⟩ := h (e, f) (by simp)
    obtain ⟨x, x1, x2⟩ := bg_add h1 h3 (C := 33) (by grind) (by grind) (by decide)
    obtain ⟨y, y1, y2⟩ := bg_add h2 h4 (C := 33) (by grind) (by grind) (by decide)
    obtain ⟨x', x3, x4⟩ := bg_add x2 (h5.mono Rat.le_refl (show 76 ≤ 76 + 53 by decide)) (C := 50) (by grind) (by grind) (by decide)
    obtain ⟨y', y3, y4⟩ := bg_add y2 (h6.mono Rat.le_refl (show 76 ≤ 76 + 53 by decide)) (C := 50) (by grind) (by grind) (by decide)
    refine ⟨x', y', x4.mono (by grind) (by decide), y4.mono (by grind) (by decide), fun R k => ?_⟩
    simp only [sumKK, foldK, addK, bindF_eq x1, bindF_eq y1, bindF_eq x3, bindF_eq y3]
  | [(a, b), (c, d), (e, f), (u, v)], _, h => by
    obtain ⟨h1, h2⟩ := h (a, b) (by simp)
    obtain ⟨h3, h4⟩ := h (c, d) (by simp)
    obtain ⟨h5, h6⟩ := h (e, f) (by simp)
    obtain ⟨h7, h8⟩ := h (u, v) (by simp)
    obtain ⟨x, x1, x2⟩ := bg_add h1 h3 (C := 33) (by grind) (by grind) (by decide)
    obtain ⟨y, y1, y2⟩ := bg_add h2 h4 (C := 33) (by grind) (by grind) (by decide)
    obtain ⟨x', x3, x4⟩ := bg_add x2 (h5.mono Rat.le_refl (show 76 ≤ 76 + 53 by decide)) (C := 50) (by grind) (by grind) (by decide)
    obtain ⟨y', y3, y4⟩ := bg_add y2 (h6.mono Rat.le_refl (show 76 ≤ 76 + 53 by decide)) (C := 50) (by grind) (by grind) (by decide)
    obtain ⟨x'', x5, x6⟩ := bg_add x4 (h7.mono Rat.le_refl (show 76 ≤ 76 + 53 + 53 by decide)) (C := 70) (by grind) (by grind) (by decide)
    obtain ⟨y'', y5, y6⟩ := bg_add y4 (h8.mono Rat.le_refl (show 76 ≤ 76 + 53 + 53 by decide)) (C := 70) (by grind) (by grind) (by decide)
    refine ⟨x'', y'', x6.mono (by grind) (by decide), y6.mono (by grind) (by decide), fun R k => ?_⟩
    simp only [sumKK, foldK, addK, bindF_eq x1, bindF_eq y1, bindF_eq x3, bindF_eq y3, bindF_eq x5, bindF_eq y5]
  | _ :: _ :: _ :: _ :: _ :: _, hl, _ => by simp at hl
theorem spd_out {f : Nat → El} {z1 z2 : Nat} {m n : Int} (h1 : Hv z1 m) (h2 : Hv z2 n) (hm : m.natAbs ≤ 32) (hn : n.natAbs ≤ 32) : ∀ (c i : Nat) (l : List (Nat × Nat)), l.length + c ≤ 4 → (∀ j, i ≤ j → j < i + c → ElOk (f j)) →
    (∀ p ∈ l, Bg 16 76 p.1 ∧ Bg 16 76 p.2) → ∃ x y e, SpOut 70 235 x y e ∧ ∀ (R : Type) (k : Nat → Nat → Int → Option R), spdR spVK addK FiniteK f z1 z2 k c i l = k x y e
  | 0, i, l, hl, _, hp => by
    obtain ⟨x, y, g1, g2, hk⟩ := sum_out l.reverse (by simp; omega) fun p h => hp p (by simpa using h)
    refine ⟨x, y, 0, .inl ⟨rfl, g1, g2⟩, fun R k => ?_⟩
    simp only [spdR]
    rw [hk]
    rw [FiniteK_yes (vl_is g1.bv.fin) (vl_is g2.bv.fin)]
    rfl
  | c + 1, i, l, hl, hf, hp => by
    obtain ⟨a, b, e, ho, hk⟩ := el_out (hf i (Nat.le_refl _) (by omega)) h1 h2 hm hn
    rcases ho with ⟨rfl, g1, g2⟩ | ⟨rfl, rfl, rfl⟩
    · obtain ⟨x, y, e, ho, hk2⟩ := spd_out h1 h2 hm hn c (i + 1) ((a, b) :: l) (by simp; omega) (fun j q1 q2 => hf j (by omega) (by omega)) (fun p hm => by
        rcases List.mem_cons.1 hm with rfl | hm
        · exact ⟨g1, g2⟩
        · exact hp p hm)
      refine ⟨x, y, e, ho, fun R k => ?_⟩
      simp only [spdR]
      rw [hk]
      exact hk2 R k
    · refine ⟨0, 0, 6, .inr ⟨rfl, rfl, rfl⟩, fun R k => ?_⟩
      simp only [spdR]
      rw [hk]
      rfl
end Go.Vm
