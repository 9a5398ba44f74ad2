/- Addresses of fields and elements are right; no conditions. -/
import Derived.Test.YtnbpfafngidimaaGreatVmE
namespace Go.Vm
set_option linter.unusedVariables false
set_option linter.unusedSimpArgs false

/-! ### Addresses -/
def fieldAddrE {R : Type} (P : Program) (s : TypeId) (x : Value) (f : Nat) (k : Value → Option R) : Option R :=
  match x, P.underlying s with
  | .pointer (some ad), some (.struct fields) =>
    match fields[f]? with
    | some fd => (calm P (sizeOf fd.type)).bind fun n => bif !Nat.beq n 0 && ad.spot.isNone then k (.pointer (some ⟨ad.block, ad.off + fd.offset, none⟩)) else none
    | none => none
  | _, _ => none

theorem add_none (b o n : Nat) : (⟨b, o, none⟩ : Addr).add n = ⟨b, o + n, none⟩ := by unfold Addr.add; split <;> simp_all

theorem fieldAddrE_sound {R : Type} {P : Program} {lo : Nat} {H : AH} {s : TypeId} {x : Value} {xo : Operand} {f : Nat} {k : Value → Option R} {r : R} (h : fieldAddrE P s x f k = some r)
    {o : Oper} (ho : o.op = .fieldAddr s xo f) : ∃ v, k v = some r ∧ ∀ {ρ : Map} {w : World} {a : Act}, Inv ρ H w → VRel ρ x (a.eval xo) → Done P lo o a ρ H w v H := by
  unfold fieldAddrE at h
  split at h
  · rename_i ad fields hu
    split at h
    · rename_i fd hfd
      obtain ⟨n, h1, h⟩ := bind_some' h
      cases hc : (!Nat.beq n 0 && ad.spot.isNone) with
      | false => rw [hc] at h; cases h
      | true =>
        rw [hc] at h
        simp only [cond_true] at h
        simp only [Bool.and_eq_true, Bool.not_eq_true'] at hc
        have hn : n ≠ 0 := fun e => by rw [e] at hc; cases hc.1
        refine ⟨_, h, fun {ρ w a} hi hx => ?_⟩
        generalize he : a.eval xo = x' at *
        cases hx with
        | ptr hk =>
          rename_i kb off sp
          refine Done.value (w' := w) ?_ (Next.refl hi) (VRel.ptr hk)
          simp only [execOp, ho, he, Instr.fieldAt, Instr.sureAddr, fieldPlace, Sem.run_bind, run_underlying hu, Result.andThen_ok, hfd, Sem.run_pure, calm_run h1]
          simp [hn, add_none, Nat.add_assoc]
    · cases h
  · cases h

def indexAddrE {R : Type} (P : Program) (t : TypeId) (x i : Value) (k : Value → Option R) : Option R :=
  match P.underlying t, x, i with
  | some (.array len elem), .pointer (some ad), .int _ i =>
    bif decide (0 ≤ i) && decide (i < len) && ad.spot.isNone then (calm P (sizeOf elem)).bind fun n => k (.pointer (some ⟨ad.block, ad.off + i.toNat * n, none⟩)) else none
  | some (.slice elem), .slice (some ad) len _, .int _ i =>
    bif decide (0 ≤ i) && decide (i < len) && ad.spot.isNone then (calm P (sizeOf elem)).bind fun n => k (.pointer (some ⟨ad.block, ad.off + i.toNat * n, none⟩)) else none
  | _, _, _ => none

theorem indexAddrE_sound {R : Type} {P : Program} {lo : Nat} {H : AH} {t : TypeId} {x i : Value} {xo io : Operand} {k : Value → Option R} {r : R} (h : indexAddrE P t x i k = some r)
    {o : Oper} (ho : o.op = .indexAddr t xo io) : ∃ v, k v = some r ∧ ∀ {ρ : Map} {w : World} {a : Act}, Inv ρ H w → VRel ρ x (a.eval xo) → VRel ρ i (a.eval io) → Done P lo o a ρ H w v H := by
  unfold indexAddrE at h
  split at h
  · rename_i len elem ad kk i hu
    cases hc : (decide (0 ≤ i) && decide (i < (len : Int)) && ad.spot.isNone) with
    | false => rw [hc] at h; cases h
    | true =>
      rw [hc] at h
      simp only [cond_true] at h
      simp only [Bool.and_eq_true, decide_eq_true_eq] at hc
      obtain ⟨n, h1, h⟩ := bind_some' h
      refine ⟨_, h, fun {ρ w a} hi hx hy => ?_⟩
      generalize he : a.eval xo = x' at *
      generalize he2 : a.eval io = i' at *
      cases hx with
      | ptr hk =>
        cases hy
        refine Done.value (w' := w) ?_ (Next.refl hi) (VRel.ptr hk)
        simp only [execOp, ho, he, he2, Instr.indexAt, Instr.sureAddr, asIntOf, Sem.run_bind, run_underlying hu, Result.andThen_ok, Sem.run_pure, calm_run h1]
        rw [if_pos hc.1]
        simp [calm_run h1, add_none, Nat.add_assoc]
  · rename_i elem ad len cap kk i hu
    cases hc : (decide (0 ≤ i) && decide (i < (len : Int)) && ad.spot.isNone) with
    | false => rw [hc] at h; cases h
    | true =>
      rw [hc] at h
      simp only [cond_true] at h
      simp only [Bool.and_eq_true, decide_eq_true_eq] at hc
      obtain ⟨n, h1, h⟩ := bind_some' h
      refine ⟨_, h, fun {ρ w a} hi hx hy => ?_⟩
      generalize he : a.eval xo = x' at *
      generalize he2 : a.eval io = i' at *
      cases hx with
      | slice hk =>
        cases hy
        refine Done.value (w' := w) ?_ (Next.refl hi) (VRel.ptr hk)
        simp only [execOp, ho, he, he2, Instr.indexAt, asIntOf, Sem.run_bind, run_underlying hu, Result.andThen_ok, Sem.run_pure]
        rw [if_pos hc.1]
        simp [calm_run h1, add_none, Nat.add_assoc]
  · cases h

/-! ### Slices of slices -/
def boundE (x : Option Value) (dflt : Nat) (most : Nat) : Option Nat :=
  match x with
  | none => some dflt
  | some (.int _ i) => bif decide (0 ≤ i) && decide (i ≤ most) then some i.toNat else none
  | _ => none

def sliceE {R : Type} (P : Program) (t : TypeId) (x : Value) (lo hi : Option Value) (k : Value → Option R) : Option R :=
  match P.underlying t, x with
  | some (.slice elem), .slice (some ad) n c =>
    (boundE hi n c).bind fun h => (boundE lo 0 h).bind fun l => (calm P (sizeOf elem)).bind fun size =>
      bif (Nat.blt l c || Nat.beq l 0) && Nat.ble l c && ad.spot.isNone then k (.slice (some ⟨ad.block, ad.off + l * size, none⟩) (h - l) (c - l)) else none
  | some (.slice elem), .slice none n c =>
    (boundE hi n c).bind fun h => (boundE lo 0 h).bind fun l => (calm P (sizeOf elem)).bind fun size => k (.slice none (h - l) (c - l))
  | _, _ => none

inductive ORel (ρ : Map) : Option Value → Option Value → Prop
  | none : ORel ρ none none
  | some {v v' : Value} (h : VRel ρ v v') : ORel ρ (some v) (some v')


end Go.Vm
