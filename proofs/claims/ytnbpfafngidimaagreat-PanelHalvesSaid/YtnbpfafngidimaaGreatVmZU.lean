/- What is listed of places and speeds about one circle is what the calls answer; no conditions. -/
import Derived.Test.YtnbpfafngidimaaGreatVmZH
import Derived.Test.YtnbpfafngidimaaGreatVmZT
namespace Go.Vm
open Go.Proofs
set_option linter.unusedVariables false
set_option maxRecDepth 1000000

/-! ### The places -/
theorem h162 : Has Tryz.prog 162 := ⟨Tryz.f162, _, Tryz.func162, by kernel_rfl, rfl⟩
theorem h52 : Has Tryz.prog 52 := ⟨Tryz.f52, _, Tryz.func52, by kernel_rfl, rfl⟩
def isC (v : Option Value) (x y : Nat) : Bool := match v with | some (.complex .f64 a b) => Nat.beq a x && Nat.beq b y | _ => false
theorem isC_eq {v : Option Value} {x y : Nat} (h : isC v x y = true) : v = some (.complex .f64 x y) := by
  unfold isC at h
  split at h
  · simp only [Bool.and_eq_true, Nat.beq_eq] at h
    rw [h.1, h.2]
  · cases h
noncomputable def chkP : List (Nat × Nat × Nat) → Bool
  | [] => true
  | (t, x, y) :: r => isC (evFn (cxm Tryz.prog hot) 300 162 [.float .f64 4613937818241073152, .float .f64 t] some) x y && chkP r
theorem chkP_look {t x y : Nat} : ∀ {l : List (Nat × Nat × Nat)}, chkP l = true → lookP t l = some (x, y) → evFn (cxm Tryz.prog hot) 300 162 [.float .f64 4613937818241073152, .float .f64 t] some = some (.complex .f64 x y)
  | [], _, h => by cases h
  | (a, u, v) :: r, hc, h => by
    unfold chkP at hc
    simp only [Bool.and_eq_true] at hc
    unfold lookP at h
    cases ha : Nat.beq a t with
    | true =>
      rw [ha] at h
      cases h
      have := Nat.eq_of_beq_eq_true ha
      subst this
      exact isC_eq hc.1
    | false => rw [ha] at h; exact chkP_look hc.2 h
theorem place0 : chkP placeT0 = true := by kernel_rfl
theorem place1 : chkP placeT1 = true := by kernel_rfl
theorem place2 : chkP placeT2 = true := by kernel_rfl
theorem place3 : chkP placeT3 = true := by kernel_rfl
theorem k162 : SumOk Tryz.prog 162 sPlace := by
  intro R args k r hr
  unfold sPlace at hr
  split at hr
  · rename_i l t
    cases hl : Nat.beq l 4613937818241073152 with
    | false => rw [hl] at hr; cases hr
    | true =>
      rw [hl] at hr
      have := Nat.eq_of_beq_eq_true hl
      subst this
      simp only [cond_true] at hr
      have key : ∃ x y, evFn (cxm Tryz.prog hot) 300 162 [.float .f64 4613937818241073152, .float .f64 t] some = some (.complex .f64 x y) ∧ k (.complex .f64 x y) = some r := by
        split at hr
        · exact ⟨_, _, chkP_look place0 ‹_›, hr⟩
        · split at hr
          · exact ⟨_, _, chkP_look place1 ‹_›, hr⟩
          · split at hr
            · exact ⟨_, _, chkP_look place2 ‹_›, hr⟩
            · split at hr
              · exact ⟨_, _, chkP_look place3 ‹_›, hr⟩
              · cases hr
      obtain ⟨x, y, h1, h2⟩ := key
      obtain ⟨v, g1, g2, g3⟩ := evFn_sound (cxm_ok hot_ok) zm_ok h1 rfl
      cases g1
      exact ⟨rfl, _, h2, g2, g3⟩
  · cases hr

/-! ### The speeds -/
noncomputable def evS (z1 z2 : Nat) : Option Value := match Tryz.f52.body with
  | some c => calAt (cxm Tryz.prog hot) 300 1 52 Tryz.f52 c [.agg ⟨[.slice (some ⟨0, 0, none⟩) 3 3]⟩, .complex .f64 z1 z2] ⟨1, [(0, .cells fOne 0)]⟩ (fun v _ => bif flat v then some v else none)
  | none => none
def isT (v : Option Value) (x y : Nat) : Bool := match v with | some (.tuple ⟨[.complex .f64 a b, .int .i64 e]⟩) => Nat.beq a x && Nat.beq b y && decide (e = 0) | _ => false
theorem isT_eq {v : Option Value} {x y : Nat} (h : isT v x y = true) : v = some (spV (x, y)) := by
  unfold isT at h
  split at h
  · simp only [Bool.and_eq_true, Nat.beq_eq, decide_eq_true_eq] at h
    rw [h.1.1, h.1.2, h.2]
    rfl
  · cases h
noncomputable def chkT : List (Nat × Nat × Nat × Nat) → Bool
  | [] => true
  | (a, b, x, y) :: r => isT (evS a b) x y && chkT r
theorem chkT_look {z1 z2 : Nat} {p : Nat × Nat} : ∀ {l : List (Nat × Nat × Nat × Nat)}, chkT l = true → lookT z1 z2 l = some p → evS z1 z2 = some (spV p)
  | [], _, h => by cases h
  | (a, b, u, v) :: r, hc, h => by
    unfold chkT at hc
    simp only [Bool.and_eq_true] at hc
    unfold lookT at h
    cases ha : (Nat.beq a z1 && Nat.beq b z2) with
    | true =>
      rw [ha] at h
      cases h
      simp only [Bool.and_eq_true, Nat.beq_eq] at ha
      rw [← ha.1, ← ha.2]
      exact isT_eq hc.1
    | false => rw [ha] at h; exact chkT_look hc.2 h
theorem speed0 : chkT speedT0 = true := by kernel_rfl
theorem speed1 : chkT speedT1 = true := by kernel_rfl
theorem speed2 : chkT speedT2 = true := by kernel_rfl
theorem speed3 : chkT speedT3 = true := by kernel_rfl

theorem eqV_eq : ∀ {a b : Value}, eqV a b = true → a = b := by
  intro a b h
  unfold eqV at h
  split at h
  · simp only [Bool.and_eq_true, decide_eq_true_eq] at h; rw [h.1, h.2]
  · simp only [Bool.and_eq_true, decide_eq_true_eq, Nat.beq_eq] at h; rw [h.1, h.2]
  · simp only [Bool.and_eq_true, decide_eq_true_eq, Nat.beq_eq] at h; rw [h.1.1, h.1.2, h.2]
  · cases h
theorem eqC_eq : ∀ {a b : List Value}, eqC a b = true → a = b
  | [], [], _ => rfl
  | a :: r, b :: s, h => by
    unfold eqC at h
    simp only [Bool.and_eq_true] at h
    rw [eqV_eq h.1, eqC_eq h.2]
  | [], _ :: _, h => by cases h
  | _ :: _, [], h => by cases h

theorem speed_calls {z1 z2 : Nat} {v : Value} (h : evS z1 z2 = some v) : flat v = true ∧ ∀ (b : Nat) (ρ : Map) (H : AH) (w : World) (args' : List Value), Inv ρ H w → look b H.objs = some (.cells fOne 0) →
    VRels ρ [.agg ⟨[.slice (some ⟨b, 0, none⟩) 3 3]⟩, .complex .f64 z1 z2] args' → Calls Tryz.prog 52 ⟨args'⟩ w fun e w' => e = .returned v ∧ RowKit.Below w.heap.size w w' := by
  unfold evS at h
  split at h
  · rename_i c hb
    obtain ⟨v', H', h1, h2⟩ := cal_sound (cxm_ok hot_ok) (fun lo sz c e H k r => (evCode_sound (cxm_ok hot_ok) zm_ok 300).1 lo sz c e H k r) _ _ _ _ _ _ _ _ h Tryz.func52 hb
    cases hfl : flat v' with
    | false => rw [hfl] at h1; cases h1
    | true =>
      rw [hfl] at h1
      cases h1
      refine ⟨hfl, fun b ρ H w args' hi hl ha => ?_⟩
      obtain ⟨s, e1, arr, ty, cs', q1, q2, q3, q4, q5⟩ := hi.rel.obj b _ (look_mem hl)
      have hflat : inns 0 fOne = true := by decide
      have := q2.flat_eq hflat
      subst this
      have hinv : Inv (fun k => bif Nat.beq k 0 then some s else none) ⟨1, [(0, .cells fOne 0)]⟩ w :=
        ⟨fun k hk => by
            simp only at hk
            have : Nat.beq k 0 = false := beq_ne (by omega)
            simp [this],
          fun k o hm => by simp only [List.mem_singleton, Prod.mk.injEq] at hm; simp [hm.1],
          fun k o o' hm hm' => by simp only [List.mem_singleton, Prod.mk.injEq] at hm hm'; rw [hm.2, hm'.2],
          ⟨fun k o hm => by
              simp only [List.mem_singleton, Prod.mk.injEq] at hm
              obtain ⟨rfl, rfl⟩ := hm
              exact ⟨s, rfl, arr, ty, fOne, q1, VRels.ofFlat _ hflat, q3, q4, q5⟩,
            fun k o k' o' s s' hm hm' _ _ _ => by simp only [List.mem_singleton, Prod.mk.injEq] at hm hm'; rw [hm.1, hm'.1]⟩⟩
      have hargs : VRels (fun k => bif Nat.beq k 0 then some s else none) [.agg ⟨[.slice (some ⟨0, 0, none⟩) 3 3]⟩, .complex .f64 z1 z2] args' := by
        obtain _ | ⟨r1, r2⟩ := ha
        obtain _ | ⟨r2, r3⟩ := r2
        cases r3
        cases r2
        cases r1 with | agg r1 =>
        obtain _ | ⟨r1, r4⟩ := r1
        cases r4
        cases r1 with
        | @slice _ _ _ _ s2 hs =>
          rw [e1] at hs
          cases hs
          exact .cons (.agg (.cons (.slice (s := s) rfl) .nil)) (.cons (.complex _ _) .nil)
      refine (h2 _ w args' hinv (Nat.le_refl _) hargs).mono ?_
      rintro e w' ⟨ρ', v', rfl, g1, g2⟩
      have := g1.flat_eq hfl
      subst this
      exact ⟨rfl, g2.os, g2.tape, g2.output, g2.size, fun b hb => g2.keep b hb fun k o s hk hm => by simp only [List.mem_singleton, Prod.mk.injEq] at hm; omega⟩
  · cases h

theorem hsF_ok : ∀ f args H v, hsF f args H = some v → Has Tryz.prog f ∧ flat v = true ∧
    ∀ (ρ : Map) (w : World) (args' : List Value), Inv ρ H w → VRels ρ args args' → Calls Tryz.prog f ⟨args'⟩ w fun e w' => e = .returned v ∧ RowKit.Below w.heap.size w w' := by
  intro f args H v h
  unfold hsF at h
  cases hf : Nat.beq f 52 with
  | false => rw [hf] at h; cases h
  | true =>
    rw [hf] at h
    have := Nat.eq_of_beq_eq_true hf
    subst this
    simp only [cond_true] at h
    split at h
    · rename_i b z1 z2
      split at h
      · rename_i cs hl
        cases he : eqC cs fOne with
        | false => rw [he] at h; cases h
        | true =>
          rw [he] at h
          have := eqC_eq he
          subst this
          simp only [cond_true] at h
          have key : evS z1 z2 = some v := by
            split at h
            · cases h; exact chkT_look speed0 ‹_›
            · split at h
              · cases h; exact chkT_look speed1 ‹_›
              · split at h
                · cases h; exact chkT_look speed2 ‹_›
                · split at h
                  · cases h; exact chkT_look speed3 ‹_›
                  · cases h
          obtain ⟨g1, g2⟩ := speed_calls key
          exact ⟨h52, g1, fun ρ w args' hi ha => g2 b ρ H w args' hi hl ha⟩
      · cases h
    · cases h

theorem cxt_ok {l : List (Nat × Sum)} (h : AllOk Tryz.prog l) : (cxt l).Ok where
  fair := fiReal_fair
  sums := fun f g hg => tab_ok (.cons k162 h162 h) f g hg
  exts := fun f g hg => exts_ok extL_ok f g hg
  meths := meth_ok
  nan1 := (cxm_ok h).nan1
  hs := hsF_ok
end Go.Vm
