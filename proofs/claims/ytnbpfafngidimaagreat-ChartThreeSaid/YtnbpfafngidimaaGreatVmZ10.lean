/- ChartThree holds: whatever the input it returns true, and the input reads as it did; no conditions. -/
import Derived.Test.YtnbpfafngidimaaGreatVmO
import Derived.Test.YtnbpfafngidimaaGreatVmZ9
import Derived.Test.YtnbpfafngidimaaGreatRows
import Derived.ProofKit
namespace Go.Proofs.YtnbpfafngidimaaGreat
open Go.ChangeShapes Go.WideShapes Go.ChangeAt Go.RowKit Go.Vm

set_option maxRecDepth 100000
theorem own3_ : ownKnob Tryz.prog.godebug = none := by kernel_rfl
theorem only49 : onlyK Tryz.prog .i16 4 49 = true := by kernel_rfl
theorem cells49 : Tryz.prog.cellsOf 49 = 6 := by kernel_rfl

theorem six {α : Type} : ∀ {l : List α}, l.length = 6 → ∃ a b c d e f, l = [a, b, c, d, e, f]
  | [x1, x2, x3, x4, x5, x6], _ => ⟨x1, x2, x3, x4, x5, x6, rfl⟩

theorem okWide_array {P : Program} {w : World} {r : Reach} {base n : Nat} {t u : TypeId} {v : Value} (ht : P.underlying t = some (.array n u)) (h : Value.okWide P w r base t v) : ∃ cs, v = .agg cs ∧ cs.size = P.cellsOf t := by
  simp only [Value.okWide, ht] at h
  obtain ⟨cs, h1, h2, _⟩ := h
  exact ⟨cs, h1, h2⟩

theorem open_iv {H : Type} {enc : TypeId × Value → H} {w : World} {base : Nat} {spare : Nat → Bool} {held : Bool} {r : Reach} {b0 : Nat} {v : Value} {d : DataW H} {p : List MemPlace}
    (hv : Value.okWide Tryz.prog w r b0 49 v) (h : DataW.Trod enc Tryz.prog w base spare held 49 v d p) :
    ∃ f : I3, v = iv f ∧ p = [] ∧ ∀ (w' : World) (base' : Nat) (spare' : Nat → Bool) (held' : Bool), DataW.Trod enc Tryz.prog w' base' spare' held' 49 v d [] := by
  obtain ⟨cs, rfl, hsz⟩ := okWide_array Tryz.underlying49 hv
  obtain ⟨h1, h2, h3⟩ := open_only only49 h
  obtain ⟨ns, h4, _⟩ := ints_of h2
  have hl : ns.length = 6 := by
    have := congrArg List.length h4
    simp only [Value.cells, List.length_map, Array.length_toList] at this
    rw [← this, hsz, cells49]
  obtain ⟨a, b, c, e, f, g, rfl⟩ := six hl
  refine ⟨⟨a, b, c, e, f, g⟩, ?_, h1, h3⟩
  unfold iv
  congr 1
  exact Array.ext' h4

theorem chartThree_lifted (os : Os) (started : os.Started) (H : Type) (enc : TypeId × Value → H) :
    ReturnsInHanded {} Tryz.checked os 5 .any (Rows.chartThreeSpec.pre6 enc Tryz.prog Tryz.f5 Rows.chartThreeRow.domain false) (Rows.chartThreeSpec.post enc Tryz.prog Tryz.f5 false true false false) := by
  refine returnsInHanded_of_change (C := Tryz.checked) own3_ started (by kernel_rfl) Tryz.func5
    (ChangeSpec.witness6 (enc := enc) (C := Tryz.checked) false ⟨#[], #[iv ⟨0, 0, 0, 0, 0, 0⟩, iv ⟨0, 0, 0, 0, 0, 0⟩], []⟩ 8 (by kernel_rfl) (by kernel_rfl) (by kernel_rfl) (by kernel_rfl)) ?_
  intro W base args ds gs before hval0 hW _ _
  have hval : ∀ (j : Nat) t v, Tryz.f5.params[j]? = some t → args[j]? = some v → Value.okWide Tryz.prog W .any base t v := hval0
  have hW' := hW
  obtain ⟨p, q, hA0, hV, rfl, _, _⟩ := hW
  have hA : DataW.TrodAll enc Tryz.prog W 0 (fun _ => true) true Tryz.f5.params.toList args.toList ds p := hA0
  rw [Tryz.params5] at hA hval
  obtain ⟨v0, v1, d0, d1, p0, p1, rfl, rfl, rfl, h0, h1⟩ := trodAll_two hA
  obtain ⟨rfl, rfl⟩ := trodVars_none hV
  obtain ⟨f, rfl, rfl, s0⟩ := open_iv (hval 0 49 v0 rfl rfl) h0
  obtain ⟨g, rfl, rfl, s1⟩ := open_iv (hval 1 49 v1 rfl rfl) h1
  clear hA0 hval0
  simp only [List.append_nil] at hW'
  refine (three_calls f g W).mono fun e W' ⟨he, hg⟩ => ?_
  subst he
  exact ⟨_, rfl, post_below hW' hg (fun _ _ _ => trodAll_mk1 (shut_bool Tryz.underlying4 true)) (fun sp => trodAll_mk2 (s0 _ _ sp _) (s1 _ _ sp _)) (fun _ => rfl)
    (ok_one (by kernel_rfl) rfl (okWide_bool_mk Tryz.underlying4 true))⟩

theorem chartThree_holds : Rows.ChartThreeSaid :=
  OpenClaim.holds_of_wide 5 Tryz.f5 rfl rfl rfl rfl rfl rfl rfl ⟨rfl, rfl, rfl, rfl, rfl⟩ rfl rfl rfl rfl rfl (by kernel_rfl) Tryz.func5 (by kernel_rfl)
    (of_decide_eq_true (by kernel_rfl)) (by unfold Func.isWrapper; first | (rw [if_pos (by decide +kernel)]; kernel_rfl) | (rw [if_neg (by decide +kernel)]; exact ⟨rfl, rfl⟩))
    (fun os started H enc _ => chartThree_lifted os started H enc)
#print axioms chartThree_holds
end Go.Proofs.YtnbpfafngidimaaGreat
