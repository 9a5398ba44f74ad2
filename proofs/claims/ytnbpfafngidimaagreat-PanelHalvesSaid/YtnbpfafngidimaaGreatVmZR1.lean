/- PanelHalves' small functions, and the length by the machine's own way, are what is told of them; no conditions. A call of PanelHalves returns true, if what its Lean function computes is true, and leaves alone what was there. -/
import Derived.Test.YtnbpfafngidimaaGreatVmZN0
import Derived.Test.YtnbpfafngidimaaGreatVmZN3
import Derived.Test.YtnbpfafngidimaaGreatVmZA
namespace Go.Vm
open Go.Proofs
set_option linter.unusedVariables false
set_option linter.unusedSimpArgs false
set_option maxRecDepth 1000000

/-! ### PanelHalves' functions are what is told of them -/
theorem h134 : Has Tryz.prog 134 := ⟨Tryz.f134, _, Tryz.func134, by kernel_rfl, rfl⟩
theorem h58 : Has Tryz.prog 58 := ⟨Tryz.f58, _, Tryz.func58, by kernel_rfl, rfl⟩
theorem h54 : Has Tryz.prog 54 := ⟨Tryz.f54, _, Tryz.func54, by kernel_rfl, rfl⟩
theorem h123 : Has Tryz.prog 123 := ⟨Tryz.f123, _, Tryz.func123, by kernel_rfl, rfl⟩
theorem k134 : SumOk Tryz.prog 134 (sIF whole17) := sumOk_of zm_ok .nil (n := 60) fun R args k r hr => by
  unfold sIF at hr; split at hr
  · exact ⟨rfl, (zh_whole fiReal R _ k).trans hr⟩
  · cases hr
theorem k135t : SumOk Tryz.prog 135 (sCFB1 (cfT WithinK)) := k135.weak fun R args k r hr => by
  unfold sCFB1 at hr; split at hr
  · refine ⟨onlyT k, ?_, fun v hv => onlyT_some hv⟩
    unfold sCFB
    simp only
    refine Eq.trans ?_ hr
    congr 1 <;> (funext t; cases t <;> rfl)
  · cases hr
theorem k80t : SumOk Tryz.prog 80 (sFFB1 (ffT withinK)) := k80.weak fun R args k r hr => by
  unfold sFFB1 at hr; split at hr
  · refine ⟨onlyT k, ?_, fun v hv => onlyT_some hv⟩
    unfold sFFB
    simp only
    refine Eq.trans ?_ hr
    congr 1 <;> (funext t; cases t <;> rfl)
  · cases hr
def onlyU {R : Type} (k : Value → Option R) : Value → Option R := fun v => match v with | .tuple ⟨[x, .bool true]⟩ => k (.tuple ⟨[x, .bool true]⟩) | _ => none
theorem onlyU_some {R : Type} {k : Value → Option R} {v : Value} {r : R} (h : onlyU k v = some r) : k v = some r := by
  unfold onlyU at h; split at h
  · exact h
  · cases h
def onlyE {R : Type} (k : Value → Option R) : Value → Option R := fun v => match v with | .tuple ⟨[x, .int .i64 e]⟩ => (match decide (e = 0) with | true => k (.tuple ⟨[x, .int .i64 0]⟩) | false => none) | _ => none
theorem onlyE_some {R : Type} {k : Value → Option R} {v : Value} {r : R} (h : onlyE k v = some r) : k v = some r := by
  unfold onlyE at h; split at h
  · split at h
    · rename_i x e _ he
      have := of_decide_eq_true he
      subst this
      exact h
    · cases h
  · cases h
theorem oneB_er {wi : KCF1} {wf : KFF1} {sub mul : KCCC} {ln : KCF} {un cj lg : KCC} {sc : KCFC} {fC : KC1} {R : Type} {f1 f2 t1 t2 s z1 z2 : Nat} {er er' : Int → Option R} {ok : Nat → Nat → Option R} (h : er 250 = er' 250) :
    oneB wi wf sub mul ln un cj lg sc fC R f1 f2 t1 t2 s z1 z2 er ok = oneB wi wf sub mul ln un cj lg sc fC R f1 f2 t1 t2 s z1 z2 er' ok := by
  unfold oneB
  simp only [h]
def unitK : KCC := unT (unitB (fCT FiniteK) greatestK scaledK squareK sqrtK)
theorem k123 : SumOk Tryz.prog 123 (sUnit unitK) := (sumOk_of (g := sUn (unitB (fCT FiniteK) greatestK scaledK squareK sqrtK)) zm_ok (.cons k93t h93 (.cons k115 h115 (.cons k116 h116 (.cons k119 h119 (.cons k118 h118 .nil))))) (n := 60) fun R args k r hr => by
  unfold sUn at hr; split at hr
  · exact ⟨rfl, (zh_unit _ _ _ _ _ R _ _ k).trans hr⟩
  · cases hr).weak fun R args k r hr => by
  unfold sUnit at hr; split at hr
  · refine ⟨onlyU k, ?_, fun v hv => onlyU_some hv⟩
    unfold sUn
    simp only
    refine Eq.trans ?_ hr
    unfold unitK unT
    congr 1
    funext x y t; cases t <;> rfl
  · cases hr
def oneK : KOne := oneX (oneB (cfT WithinK) (ffT withinK) subK mulK lengthK unitK conjK powLogK sclK (fCT FiniteK))
theorem k54 : SumOk Tryz.prog 54 (sOne oneK) := (sumOk_of (g := sOneE (oneB (cfT WithinK) (ffT withinK) subK mulK lengthK unitK conjK powLogK sclK (fCT FiniteK))) zm_ok
    (.cons k135t h135 (.cons k80t h80 (.cons k21 h21 (.cons k38 h38 (.cons k123 h123 (.cons k124 h124 (.cons k22 h22 (.cons k189 h189 (.cons k65 h65 (.cons k39 h39 (.cons k93t h93 .nil))))))))))) (n := 60) fun R args k r hr => by
  unfold sOneE at hr; split at hr
  · exact ⟨rfl, (zh_one _ _ _ _ _ _ _ _ _ _ R _ _ _ _ _ _ _ k).trans hr⟩
  · cases hr).weak fun R args k r hr => by
  unfold sOne at hr; split at hr
  · refine ⟨onlyE k, ?_, fun v hv => onlyE_some hv⟩
    unfold sOneE
    simp only
    exact (oneB_er (er' := fun _ => none) rfl).trans hr
  · cases hr

/-! ### Hypot -/
theorem arith_mul {x y r : Nat} (h : fbF .mul x y = some r) : Extern.MathAsm.mul x y = pure r := by
  rw [fbF_eq] at h
  have h' : FloatKind.f64.format.mul x y = some r := h
  simp [Extern.MathAsm.mul, Extern.MathAsm.arith, Op.floatArith, h']
theorem arith_add {x y r : Nat} (h : fbF .add x y = some r) : Extern.MathAsm.add x y = pure r := by
  rw [fbF_eq] at h
  have h' : FloatKind.f64.format.add x y = some r := h
  simp [Extern.MathAsm.add, Extern.MathAsm.arith, Op.floatArith, h']
theorem arith_div {x y r : Nat} (h : fbF .quo x y = some r) : Extern.MathAsm.div x y = pure r := by
  rw [fbF_eq] at h
  have h' : FloatKind.f64.format.div x y = some r := h
  simp [Extern.MathAsm.div, Extern.MathAsm.arith, Op.floatArith, h']
theorem hypC_pure {R : Type} {big small : Nat} {k : Nat → Option R} {r : R} (h : hypC big small k = some r) : ∃ x, k x = some r ∧
    (do let q ← Extern.MathAsm.div small big
        let q ← Extern.MathAsm.add (← Extern.MathAsm.mul q q) Extern.MathAsm.one
        let .float _ q ← Extern.MathSqrt.sqrt #[.float .f64 q] | stuck "sqrt: a float expected"
        pure (.float .f64 (← Extern.MathAsm.mul q big)) : Sem Value) = pure (.float .f64 x) := by
  unfold hypC at h
  obtain ⟨a, h1, h⟩ := bindF_some h
  obtain ⟨b, h2, h⟩ := bindF_some h
  obtain ⟨c, h3, h⟩ := bindF_some h
  obtain ⟨d, h4, h⟩ := bindF_some h
  obtain ⟨x, h5, h⟩ := bindF_some h
  refine ⟨x, h, ?_⟩
  have h3' : Extern.MathAsm.add b Extern.MathAsm.one = pure c := arith_add h3
  have h4' : Extern.MathSqrt.sqrt #[.float .f64 c] = pure (.float .f64 d) := by
    show (match Ieee.double.sqrt c with | some r => _ | none => _) = _
    rw [h4]
  simp [arith_div h1, arith_mul h2, h3', h4', arith_mul h5]
theorem hyp_def (a b : Nat) : Extern.MathHypot.archHypot #[.float .f64 a, .float .f64 b] = (do
    let p := a % 2 ^ 63
    let q := b % 2 ^ 63
    if p == Extern.MathAsm.posInf || q == Extern.MathAsm.posInf then return .float .f64 Extern.MathAsm.posInf
    if p > Extern.MathAsm.posInf || q > Extern.MathAsm.posInf then return .float .f64 Extern.MathAsm.nan
    if p == 0 && q == 0 then return .float .f64 0
    let (big, small) := if Extern.MathAsm.lt p q then (q, p) else (p, q)
    let r ← Extern.MathAsm.div small big
    let r ← Extern.MathAsm.add (← Extern.MathAsm.mul r r) Extern.MathAsm.one
    let .float _ r ← Extern.MathSqrt.sqrt #[.float .f64 r] | stuck "sqrt: a float expected"
    pure (.float .f64 (← Extern.MathAsm.mul r big)) : Sem Value) := rfl
theorem e150 : ExtOk Tryz.prog 150 (sHyp hypK) := by
  intro R args k r hr
  unfold sHyp at hr; split at hr
  · rename_i a b
    unfold hypK at hr
    cases hc : (Nat.blt (a % 2 ^ 63) 9218868437227405312 && Nat.blt (b % 2 ^ 63) 9218868437227405312) with
    | false => rw [hc] at hr; cases hr
    | true =>
      rw [hc] at hr
      simp only [cond_true] at hr
      simp only [Bool.and_eq_true, Nat.blt_eq] at hc
      have p1 : (a % 2 ^ 63 == Extern.MathAsm.posInf) = false := by
        have : a % 2 ^ 63 ≠ 9218868437227405312 := by omega
        simpa [Extern.MathAsm.posInf] using this
      have p2 : (b % 2 ^ 63 == Extern.MathAsm.posInf) = false := by
        have : b % 2 ^ 63 ≠ 9218868437227405312 := by omega
        simpa [Extern.MathAsm.posInf] using this
      have p3 : ¬ a % 2 ^ 63 > Extern.MathAsm.posInf := by show ¬ a % 2 ^ 63 > 9218868437227405312; omega
      have p4 : ¬ b % 2 ^ 63 > Extern.MathAsm.posInf := by show ¬ b % 2 ^ 63 > 9218868437227405312; omega
      have run : ∀ x, Extern.MathHypot.archHypot #[.float .f64 a, .float .f64 b] = pure (.float .f64 x) → k (.float .f64 x) = some r →
          inns 0 [Value.float .f64 a, Value.float .f64 b] = true ∧ ∃ v, k v = some r ∧ flat v = true ∧ ∀ w, (callFunc 150 ⟨[Value.float .f64 a, Value.float .f64 b]⟩).run Tryz.prog w = .ok (.value v) w := fun x hx hk =>
        ⟨rfl, _, hk, rfl, fun w => run_ext Tryz.func150 (by kernel_rfl) (by kernel_rfl) (show Extern.find Tryz.f150 = some Extern.MathHypot.archHypot by kernel_rfl) (by kernel_rfl) hx w⟩
      cases hz : (Nat.beq (a % 2 ^ 63) 0 && Nat.beq (b % 2 ^ 63) 0) with
      | true =>
        rw [hz] at hr
        simp only [Bool.and_eq_true, Nat.beq_eq] at hz
        refine run 0 ?_ hr
        rw [hyp_def]
        simp only [p1, p2, p3, p4, Bool.or_false, Bool.false_eq_true, if_false, or_false, decide_false]
        simp [hz.1, hz.2]
      | false =>
        rw [hz] at hr
        have hz' : (a % 2 ^ 63 == 0 && b % 2 ^ 63 == 0) = false := by rw [← hz]; simp [nb]; rfl
        have hlt : Extern.MathAsm.lt (a % 2 ^ 63) (b % 2 ^ 63) = ltF (a % 2 ^ 63) (b % 2 ^ 63) := by unfold ltF; rw [ordW_eq]; rfl
        cases hl : ltF (a % 2 ^ 63) (b % 2 ^ 63) with
        | true =>
          rw [hl] at hr
          obtain ⟨x, hk, hx⟩ := hypC_pure hr
          refine run x (Eq.trans ?_ hx) hk
          rw [hyp_def]
          simp only [p1, p2, p3, p4, hz', hlt, hl]
          simp
        | false =>
          rw [hl] at hr
          obtain ⟨x, hk, hx⟩ := hypC_pure hr
          refine run x (Eq.trans ?_ hx) hk
          rw [hyp_def]
          simp only [p1, p2, p3, p4, hz', hlt, hl]
          simp
  · cases hr
end Go.Vm
namespace Go.Vm
open Go.Proofs
set_option linter.unusedVariables false
set_option linter.unusedSimpArgs false
set_option maxRecDepth 1000000
theorem k58 : SumOk Tryz.prog 58 (sHyp hypK) := sumOk_exts (l := []) (es := [(150, sHyp hypK)]) (n := 60) zm_ok .nil
  (fun f g h => by
    unfold tab at h
    cases hb : Nat.beq 150 f with
    | true =>
      rw [hb] at h; cases h
      rw [← Nat.eq_of_beq_eq_true hb]; exact e150
    | false => rw [hb] at h; cases h)
  fun R args k r hr => by
    unfold sHyp at hr; split at hr
    · exact ⟨rfl, by rw [zh_hyp]; exact hr⟩
    · cases hr
theorem k47L : SumOk Tryz.prog 47 sTrueL := fun R args k r hr => by
  unfold sTrueL at hr; split at hr
  · exact k47 R [] k r hr
  · cases hr
def halvesK : KHalves := halvesB whole17 hypK absK oneK
theorem halves_calls {a b c d x y : Int} (h : halvesK Unit a b c d x y (fun t => match t with | true => some () | false => none) = some ()) (w : World) :
    Calls Tryz.prog 10 ⟨[.int .i64 a, .int .i64 b, .int .i64 c, .int .i64 d, .int .i64 x, .int .i64 y]⟩ w fun e w' => e = .returned (.bool true) ∧ RowKit.Below w.heap.size w w' := by
  have hall : AllOk Tryz.prog [(47, sTrueL), (134, sIF whole17), (58, sHyp hypK), (53, sFF absK), (54, sOne oneK)] := .cons k47L h47 (.cons k134 h134 (.cons k58 h58 (.cons k53 h53 (.cons k54 h54 .nil))))
  have e := (zh_halves whole17 hypK absK oneK Unit a b c d x y (fun v => match v with | .bool true => some () | _ => none)).trans
    (show halvesB _ _ _ _ Unit a b c d x y _ = some () from (by
      refine Eq.trans ?_ h
      unfold halvesK
      congr 1
      funext t
      cases t <;> rfl))
  obtain ⟨v, h1, _, h2⟩ := evFn_sound (cx_ok hall) zm_ok e rfl
  have : v = .bool true := by
    split at h1
    · rfl
    · cases h1
  subst this
  exact h2 w
end Go.Vm
