/- A call is evaluated in a memory that is told, and one object alone suffices; no conditions. -/
import Derived.Test.YtnbpfafngidimaaGreatVmF0
namespace Go.Vm
set_option linter.unusedVariables false
set_option linter.unusedSimpArgs false

/-! ### A call evaluated in a memory that is told -/
def evHeap {R : Type} (C : Cx) (n : Nat) (f : FuncId) (args : List Value) (H : AH) (k : Value → Option R) : Option R :=
  match C.P.funcs[f]? with
  | none => none
  | some fn =>
    match fn.body with
    | some c => calAt C n H.next f fn c args H fun v _ => bif flat v then k v else none
    | none => none

theorem evHeap_sound {R : Type} {C : Cx} (hC : C.Ok) (hmix : C.P.follows .mixedOrders = true) {n : Nat} {f : FuncId} {args : List Value} {H : AH} {k : Value → Option R} {r : R} (h : evHeap C n f args H k = some r) :
    ∃ v, k v = some r ∧ flat v = true ∧ ∀ (ρ : Map) (w : World) (args' : List Value), Inv ρ H w → VRels ρ args args' → Calls C.P f ⟨args'⟩ w fun e w' => e = .returned v ∧ RowKit.Below w.heap.size w w' := by
  unfold evHeap at h
  split at h
  · cases h
  · rename_i fn hf
    split at h
    · rename_i c hb
      obtain ⟨v, H', h1, h2⟩ := cal_sound hC (fun lo sz c e H k r => (evCode_sound hC hmix n).1 lo sz c e H k r) _ _ _ _ _ _ _ _ h hf hb
      cases hfl : flat v with
      | false => rw [hfl] at h1; cases h1
      | true =>
        rw [hfl] at h1
        refine ⟨v, h1, hfl, fun ρ w args' hi ha => (h2 ρ w args' hi (Nat.le_refl _) ha).mono ?_⟩
        rintro e w' ⟨ρ', v', rfl, g1, g2⟩
        have := g1.flat_eq hfl
        subst this
        exact ⟨rfl, g2.os, g2.tape, g2.output, g2.size, fun b hb => g2.keep b hb fun k o s hk hm => absurd (hi.wf k o hm) (by omega)⟩
    · cases h

/-- one object alone, in a memory of its own -/
def oneMap (s : Spot) : Map := fun k => bif Nat.beq k 0 then some s else none
theorem oneMap_zero (s : Spot) : oneMap s 0 = some s := rfl
theorem oneMap_some {s p : Spot} {k : Nat} (h : oneMap s k = some p) : k = 0 ∧ p = s := by
  unfold oneMap at h
  cases hb : Nat.beq k 0 with
  | true => rw [hb] at h; cases h; exact ⟨Nat.eq_of_beq_eq_true hb, rfl⟩
  | false => rw [hb] at h; cases h
theorem Inv.one_cells {ρ : Map} {H : AH} {w : World} (hi : Inv ρ H w) {b : Nat} {cs : List Value} {sz : Nat} {s : Spot} (hl : look b H.objs = some (.cells cs sz)) (hf : inns 0 cs = true) (hs : ρ b = some s) :
    Inv (oneMap s) ⟨1, [(0, .cells cs sz)]⟩ w := by
  obtain ⟨s2, e1, arr, ty, cs', h1, h2, h3⟩ := hi.rel.obj b _ (look_mem hl)
  rw [hs] at e1
  cases e1
  have := h2.flat_eq hf
  subst this
  refine ⟨fun k hk => ?_, fun k o hm => ?_, fun k o o' h1 h2 => ?_, ⟨fun k o hm => ?_, fun k o k' o' s1 s1' h1 h2 _ _ _ => ?_⟩⟩
  · have hk1 : 1 ≤ k := hk
    unfold oneMap
    cases hb : Nat.beq k 0 with
    | true => have := Nat.eq_of_beq_eq_true hb; omega
    | false => rfl
  · simp at hm; show k < 1; omega
  · simp at h1 h2; rw [h1.2, h2.2]
  · simp at hm
    obtain ⟨rfl, rfl⟩ := hm
    exact ⟨s, rfl, arr, ty, cs', h1, VRels.ofFlat _ hf, h3⟩
  · simp at h1 h2; omega
end Go.Vm
