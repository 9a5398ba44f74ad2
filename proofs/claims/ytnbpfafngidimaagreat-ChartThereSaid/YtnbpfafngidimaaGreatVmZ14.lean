/- ChartThere holds: whatever the input it returns true, and the input reads as it did; no conditions. -/
import Derived.Test.YtnbpfafngidimaaGreatVmO
import Derived.Test.YtnbpfafngidimaaGreatVmZ13
import Derived.Test.YtnbpfafngidimaaGreatRows
import Derived.ProofKit
namespace Go.Proofs.YtnbpfafngidimaaGreat
open Go.ChangeShapes Go.WideShapes Go.ChangeAt Go.RowKit Go.Vm

set_option maxRecDepth 100000
theorem own4_ : ownKnob Tryz.prog.godebug = none := by kernel_rfl
theorem only26 : onlyK Tryz.prog .i16 3 26 = true := by kernel_rfl
theorem cells26 : Tryz.prog.cellsOf 26 = 8 := by kernel_rfl

theorem eight {α : Type} : ∀ {l : List α}, l.length = 8 → ∃ a b c d e f g h, l = [a, b, c, d, e, f, g, h]
  | [x1, x2, x3, x4, x5, x6, x7, x8], _ => ⟨x1, x2, x3, x4, x5, x6, x7, x8, rfl⟩

theorem open_fr {H : Type} {enc : TypeId × Value → H} {w : World} {base : Nat} {spare : Nat → Bool} {held : Bool} {r : Reach} {b0 : Nat} {v : Value} {d : DataW H} {p : List MemPlace}
    (hv : Value.okWide Tryz.prog w r b0 26 v) (h : DataW.Trod enc Tryz.prog w base spare held 26 v d p) :
    ∃ f : Fr, v = fv f ∧ p = [] ∧ ∀ (w' : World) (base' : Nat) (spare' : Nat → Bool) (held' : Bool), DataW.Trod enc Tryz.prog w' base' spare' held' 26 v d [] := by
  obtain ⟨cs, rfl, hsz⟩ := okWide_struct Tryz.underlying26 hv
  obtain ⟨h1, h2, h3⟩ := open_only only26 h
  obtain ⟨ns, h4, _⟩ := ints_of h2
  have hl : ns.length = 8 := by
    have := congrArg List.length h4
    simp only [Value.cells, List.length_map, Array.length_toList] at this
    rw [← this, hsz, cells26]
  obtain ⟨a, b, c, e, f, g, i, j, rfl⟩ := eight hl
  refine ⟨⟨a, b, c, e, f, g, i, j⟩, ?_, h1, h3⟩
  unfold fv
  congr 1
  exact Array.ext' h4

theorem only24 : onlyK Tryz.prog .i16 3 24 = true := by kernel_rfl
theorem cells24 : Tryz.prog.cellsOf 24 = 2 := by kernel_rfl
theorem two {α : Type} : ∀ {l : List α}, l.length = 2 → ∃ a b, l = [a, b]
  | [x1, x2], _ => ⟨x1, x2, rfl⟩

theorem open_gv {H : Type} {enc : TypeId × Value → H} {w : World} {base : Nat} {spare : Nat → Bool} {held : Bool} {r : Reach} {b0 : Nat} {v : Value} {d : DataW H} {p : List MemPlace}
    (hv : Value.okWide Tryz.prog w r b0 24 v) (h : DataW.Trod enc Tryz.prog w base spare held 24 v d p) :
    ∃ g : G2, v = gv g ∧ p = [] ∧ ∀ (w' : World) (base' : Nat) (spare' : Nat → Bool) (held' : Bool), DataW.Trod enc Tryz.prog w' base' spare' held' 24 v d [] := by
  obtain ⟨cs, rfl, hsz⟩ := okWide_struct Tryz.underlying24 hv
  obtain ⟨h1, h2, h3⟩ := open_only only24 h
  obtain ⟨ns, h4, _⟩ := ints_of h2
  have hl : ns.length = 2 := by
    have := congrArg List.length h4
    simp only [Value.cells, List.length_map, Array.length_toList] at this
    rw [← this, hsz, cells24]
  obtain ⟨a, b, rfl⟩ := two hl
  refine ⟨⟨a, b⟩, ?_, h1, h3⟩
  unfold gv
  congr 1
  exact Array.ext' h4

theorem chartThere_lifted (os : Os) (started : os.Started) (H : Type) (enc : TypeId × Value → H) :
    ReturnsInHanded {} Tryz.checked os 4 .any (Rows.chartThereSpec.pre6 enc Tryz.prog Tryz.f4 Rows.chartThereRow.domain false) (Rows.chartThereSpec.post enc Tryz.prog Tryz.f4 false true false false) := by
  refine returnsInHanded_of_change (C := Tryz.checked) own4_ started (by kernel_rfl) Tryz.func4
    (ChangeSpec.witness6 (enc := enc) (C := Tryz.checked) false ⟨#[], #[fv ⟨0, 0, 0, 0, 0, 0, 0, 0⟩, gv ⟨0, 0⟩, gv ⟨0, 0⟩], []⟩ 8 (by kernel_rfl) (by kernel_rfl) (by kernel_rfl) (by kernel_rfl)) ?_
  intro W base args ds gs before hval0 hW _ _
  have hval : ∀ (j : Nat) t v, Tryz.f4.params[j]? = some t → args[j]? = some v → Value.okWide Tryz.prog W .any base t v := hval0
  have hW' := hW
  obtain ⟨p, q, hA0, hV, rfl, _, _⟩ := hW
  have hA : DataW.TrodAll enc Tryz.prog W 0 (fun _ => true) true Tryz.f4.params.toList args.toList ds p := hA0
  rw [Tryz.params4] at hA hval
  obtain ⟨v0, v1, v2, d0, d1, d2, p0, p1, p2, rfl, rfl, rfl, h0, h1, h2⟩ := trodAll_three hA
  obtain ⟨rfl, rfl⟩ := trodVars_none hV
  obtain ⟨f, rfl, rfl, s0⟩ := open_fr (hval 0 26 v0 rfl rfl) h0
  obtain ⟨g, rfl, rfl, s1⟩ := open_gv (hval 1 24 v1 rfl rfl) h1
  obtain ⟨h, rfl, rfl, s2⟩ := open_gv (hval 2 24 v2 rfl rfl) h2
  clear hA0 hval0
  simp only [List.append_nil] at hW'
  refine (there_calls f g h W).mono fun e W' ⟨he, hg⟩ => ?_
  subst he
  exact ⟨_, rfl, post_below hW' hg (fun _ _ _ => trodAll_mk1 (shut_bool Tryz.underlying4 true)) (fun sp => trodAll_mk3 (s0 _ _ sp _) (s1 _ _ sp _) (s2 _ _ sp _)) (fun _ => rfl)
    (ok_one (by kernel_rfl) rfl (okWide_bool_mk Tryz.underlying4 true))⟩

theorem chartThere_holds : Rows.ChartThereSaid :=
  OpenClaim.holds_of_wide 4 Tryz.f4 rfl rfl rfl rfl rfl rfl rfl ⟨rfl, rfl, rfl, rfl, rfl⟩ rfl rfl rfl rfl rfl (by kernel_rfl) Tryz.func4 (by kernel_rfl)
    (of_decide_eq_true (by kernel_rfl)) (by unfold Func.isWrapper; first | (rw [if_pos (by decide +kernel)]; kernel_rfl) | (rw [if_neg (by decide +kernel)]; exact ⟨rfl, rfl⟩))
    (fun os started H enc _ => chartThere_lifted os started H enc)
#print axioms chartThere_holds
end Go.Proofs.YtnbpfafngidimaaGreat
