/- A call of FoilNames returns true and leaves alone what was there; no conditions. -/
import Derived.Test.YtnbpfafngidimaaGreatVmZF3
namespace Go.Vm
open Go.Proofs
set_option linter.unusedVariables false
set_option maxRecDepth 1000000

/-! ### What Border answers, told ahead; and the closed sentence -/
theorem h73 : Has Tryz.prog 73 := ⟨Tryz.f73, _, Tryz.func73, by kernel_rfl, rfl⟩
def isFoil (args : List Value) : Bool := match args with
  | [.agg ⟨[.complex .f64 a b, .float .f64 r, .complex .f64 c d]⟩, .int .i64 n] =>
    Nat.beq a 13817043656772681728 && Nat.beq b 4593671619917905920 && Nat.beq r 4607182418800017408 && Nat.beq c 4611686018427387904 && Nat.beq d 13821547256400052224 && decide (n = 4096)
  | _ => false
theorem isFoil_eq {args : List Value} (h : isFoil args = true) : args = [foilV, .int .i64 4096] := by
  unfold isFoil at h; split at h
  · simp only [Bool.and_eq_true, decide_eq_true_eq] at h
    obtain ⟨⟨⟨⟨⟨h1, h2⟩, h3⟩, h4⟩, h5⟩, h6⟩ := h
    rw [Nat.eq_of_beq_eq_true h1, Nat.eq_of_beq_eq_true h2, Nat.eq_of_beq_eq_true h3, Nat.eq_of_beq_eq_true h4, Nat.eq_of_beq_eq_true h5, h6]
    rfl
  · cases h
noncomputable def msB (cs : List Value) : FuncId → List Value → AH → Option (Value × AH) := fun f args H =>
  bif Nat.beq f 73 && isFoil args then some (.tuple ⟨[.slice (some ⟨H.next, 0, none⟩) 4096 4096, .int .i64 0]⟩, H.push (.cells cs 0)) else none
noncomputable def cxB (l : List (Nat × Sum)) (cs : List Value) : Cx := { P := Tryz.prog, sums := tab l, exts := tab extL, meths := methT, wild := wildT, fi := fiReal, nn := true, nan1 := nanT, defs := fun f => Nat.beq f 190, hs := fun _ _ _ => none, ms := msB cs }
theorem cxB_ok {l : List (Nat × Sum)} (h : AllOk Tryz.prog l) {cs : List Value}
    (hb : ∀ (lo : Nat) (ρ : Map) (H : AH) (w : World) (args' : List Value), Inv ρ H w → lo ≤ H.next → VRels ρ [foilV, .int .i64 4096] args' →
      Calls Tryz.prog 73 ⟨args'⟩ w fun e w' => ∃ ρ' v', e = .returned v' ∧ VRel ρ' (.tuple ⟨[.slice (some ⟨H.next, 0, none⟩) 4096 4096, .int .i64 0]⟩) v' ∧ Next lo ρ H w ρ' (H.push (.cells cs 0)) w') : (cxB l cs).Ok where
  fair := fiReal_fair
  sums := fun f g hg => tab_ok h f g hg
  exts := fun f g hg => exts_ok extL_ok f g hg
  meths := meth_ok
  nan1 := fun f hf => by
    have : f = 53 := Nat.eq_of_beq_eq_true hf
    subst this
    exact ⟨h53, nan53⟩
  hs := fun f args H v h => by cases h
  ms := fun f args H p h => by
    have h' : msB cs f args H = some p := h
    unfold msB at h'
    cases hc : (Nat.beq f 73 && isFoil args) with
    | false => rw [hc] at h'; cases h'
    | true =>
      rw [hc] at h'
      simp only [Bool.and_eq_true] at hc
      obtain ⟨hf, ha⟩ := hc
      have hf' := Nat.eq_of_beq_eq_true hf
      subst hf'
      have ha' := isFoil_eq ha
      subst ha'
      cases h'
      exact ⟨h73, fun lo ρ w args' hi hlo hr => hb lo ρ H w args' hi hlo hr⟩
theorem foil_eval (cs : List Value) : evFn (cxB ((72, sTrue) :: hot) cs) 1000 13 [] some = some (.bool true) := by kernel_rfl
theorem foil_calls (w : World) : Calls Tryz.prog 13 ⟨[]⟩ w fun e w' => e = .returned (.bool true) ∧ RowKit.Below w.heap.size w w' := by
  obtain ⟨cs, f1, hb⟩ := border_all
  obtain ⟨v, h1, _, h2⟩ := evFn_sound (cxB_ok (.cons k72 h72 hot_ok) hb) zm_ok (foil_eval cs) rfl
  cases h1
  exact h2 w
end Go.Vm
