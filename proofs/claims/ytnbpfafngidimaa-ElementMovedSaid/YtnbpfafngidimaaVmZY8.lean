/- ElementMoved holds: whatever the input it returns true, and the input reads as it did; no conditions. -/
import Derived.Test.YtnbpfafngidimaaVmO
import Derived.Test.YtnbpfafngidimaaVmZY7
import Derived.Test.YtnbpfafngidimaaVmP55
import Derived.Test.YtnbpfafngidimaaRows
import Derived.ProofKit
import Derived.Laws.Cover2
namespace Go.Proofs.Ytnbpfafngidimaa
open Go.ChangeShapes Go.WideShapes Go.ChangeAt Go.RowKit Go.Vm

set_option maxRecDepth 100000
theorem own3_ : ownKnob Try.prog.godebug = none := by kernel_rfl
theorem only24 : onlyK Try.prog .i16 3 24 = true := by kernel_rfl
theorem cells24 : Try.prog.cellsOf 24 = 2 := by kernel_rfl
theorem two {α : Type} : ∀ {l : List α}, l.length = 2 → ∃ a b, l = [a, b]
  | [x1, x2], _ => ⟨x1, x2, rfl⟩

theorem open_gz {H : Type} {enc : TypeId × Value → H} {w : World} {base : Nat} {spare : Nat → Bool} {held : Bool} {r : Reach} {b0 : Nat} {v : Value} {d : DataW H} {p : List MemPlace}
    (hv : Value.okWide Try.prog w r b0 24 v) (h : DataW.Trod enc Try.prog w base spare held 24 v d p) :
    ∃ x y : Int, v = gz x y ∧ p = [] ∧ ∀ (w' : World) (base' : Nat) (spare' : Nat → Bool) (held' : Bool), DataW.Trod enc Try.prog w' base' spare' held' 24 v d [] := by
  obtain ⟨cs, rfl, hsz⟩ := okWide_struct Try.underlying24 hv
  obtain ⟨h1, h2, h3⟩ := open_only only24 h
  obtain ⟨ns, h4, _⟩ := ints_of h2
  have hl : ns.length = 2 := by
    have := congrArg List.length h4
    simp only [Value.cells, List.length_map, Array.length_toList] at this
    rw [← this, hsz, cells24]
  obtain ⟨a, b, rfl⟩ := two hl
  refine ⟨a, b, ?_, h1, h3⟩
  unfold gz
  congr 1
  exact Array.ext' h4

theorem trodAll_six {H : Type} {enc : TypeId × Value → H} {P : Program} {w : World} {base : Nat} {spare : Nat → Bool} {held : Bool} {t1 t2 t3 t4 t5 t6 : TypeId} {args : Array Value} {ds : List (DataW H)} {ps : List MemPlace}
    (h : DataW.TrodAll enc P w base spare held [t1, t2, t3, t4, t5, t6] args.toList ds ps) :
    ∃ v1 v2 v3 v4 v5 v6 d1 d2 d3 d4 d5 d6 p1 p2 p3 p4 p5 p6, args = #[v1, v2, v3, v4, v5, v6] ∧ ds = [d1, d2, d3, d4, d5, d6] ∧ ps = p1 ++ (p2 ++ (p3 ++ (p4 ++ (p5 ++ (p6 ++ []))))) ∧
      DataW.Trod enc P w base spare held t1 v1 d1 p1 ∧ DataW.Trod enc P w base spare held t2 v2 d2 p2 ∧ DataW.Trod enc P w base spare held t3 v3 d3 p3 ∧
      DataW.Trod enc P w base spare held t4 v4 d4 p4 ∧ DataW.Trod enc P w base spare held t5 v5 d5 p5 ∧ DataW.Trod enc P w base spare held t6 v6 d6 p6 := by
  obtain ⟨v1, vs, d1, ds1, p1, q1, hargs, rfl, rfl, h1, h⟩ := trodAll_cons h
  obtain ⟨v2, vs, d2, ds2, p2, q2, rfl, rfl, rfl, h2, h⟩ := trodAll_cons h
  obtain ⟨v3, vs, d3, ds3, p3, q3, rfl, rfl, rfl, h3, h⟩ := trodAll_cons h
  obtain ⟨v4, vs, d4, ds4, p4, q4, rfl, rfl, rfl, h4, h⟩ := trodAll_cons h
  obtain ⟨v5, vs, d5, ds5, p5, q5, rfl, rfl, rfl, h5, h⟩ := trodAll_cons h
  obtain ⟨v6, vs, d6, ds6, p6, q6, rfl, rfl, rfl, h6, h⟩ := trodAll_cons h
  obtain ⟨rfl, rfl, rfl⟩ := trodAll_nil h
  exact ⟨v1, v2, v3, v4, v5, v6, d1, d2, d3, d4, d5, d6, p1, p2, p3, p4, p5, p6, Array.ext' hargs, rfl, rfl, h1, h2, h3, h4, h5, h6⟩

theorem elementMoved_lifted (os : Os) (started : os.Started) (H : Type) (enc : TypeId × Value → H) :
    ReturnsInHanded {} Try.checked os 3 .any (Rows.elementMovedSpec.pre6 enc Try.prog Try.f3 Rows.elementMovedRow.domain false) (Rows.elementMovedSpec.post enc Try.prog Try.f3 false true false false) := by
  refine returnsInHanded_of_change (C := Try.checked) own3_ started (by kernel_rfl) Try.func3
    (ChangeSpec.witness6 (enc := enc) (C := Try.checked) false ⟨#[], #[.int .u8 0, gz 0 0, gz 0 0, gz 0 0, gz 0 0, .float .f64 0], []⟩ 8 (by kernel_rfl) (by kernel_rfl) (by kernel_rfl) (by kernel_rfl)) ?_
  intro W base args ds gs before hval0 hW _ _
  have hval : ∀ (j : Nat) t v, Try.f3.params[j]? = some t → args[j]? = some v → Value.okWide Try.prog W .any base t v := hval0
  have hW' := hW
  obtain ⟨p, q, hA0, hV, rfl, _, _⟩ := hW
  have hA : DataW.TrodAll enc Try.prog W 0 (fun _ => true) true Try.f3.params.toList args.toList ds p := hA0
  rw [Try.params3] at hA hval
  obtain ⟨v0, v1, v2, v3, v4, v5, d0, d1, d2, d3, d4, d5, p0, p1, p2, p3, p4, p5, rfl, rfl, rfl, h0, h1, h2, h3, h4, h5⟩ := trodAll_six hA
  obtain ⟨rfl, rfl⟩ := trodVars_none hV
  obtain ⟨kind, rfl, rfl, rfl, hw0⟩ := open_int Try.underlying5 (hval 0 5 v0 rfl rfl) h0
  obtain ⟨x1, y1, rfl, rfl, s1⟩ := open_gz (hval 1 24 v1 rfl rfl) h1
  obtain ⟨x2, y2, rfl, rfl, s2⟩ := open_gz (hval 2 24 v2 rfl rfl) h2
  obtain ⟨x3, y3, rfl, rfl, s3⟩ := open_gz (hval 3 24 v3 rfl rfl) h3
  obtain ⟨x4, y4, rfl, rfl, s4⟩ := open_gz (hval 4 24 v4 rfl rfl) h4
  obtain ⟨pw, rfl, rfl, rfl, hw5⟩ := open_float Try.underlying25 (hval 5 25 v5 rfl rfl) h5
  have hp : pw < 2 ^ 64 := by simpa [Lit.wf] using hw5
  clear hA0 hval0
  simp only [List.append_nil] at hW'
  refine (moved_calls (lawMB_true kind x1 y1 x2 y2 x3 y3 x4 y4 hp _) W).mono fun e W' ⟨he, hg⟩ => ?_
  subst he
  exact ⟨_, rfl, post_below hW' hg (fun _ _ _ => trodAll_mk1 (shut_bool Try.underlying4 true))
    (fun sp => trodAll_cons_mk (shut_int Try.underlying5 hw0) (trodAll_cons_mk (s1 _ _ sp _) (trodAll_cons_mk (s2 _ _ sp _) (trodAll_cons_mk (s3 _ _ sp _) (trodAll_cons_mk (s4 _ _ sp _) (trodAll_mk1 (shut_float Try.underlying25 hw5)))))))
    (fun _ => rfl) (ok_one (by kernel_rfl) rfl (okWide_bool_mk Try.underlying4 true))⟩

theorem elementMoved_holds : Rows.ElementMovedSaid :=
  OpenClaim.holds_of_wide 3 Try.f3 rfl rfl rfl rfl rfl rfl rfl ⟨rfl, rfl, rfl, rfl, rfl⟩ rfl rfl rfl rfl rfl (by kernel_rfl) Try.func3 (by kernel_rfl)
    (of_decide_eq_true (by kernel_rfl)) (by unfold Func.isWrapper; first | (rw [if_pos (by decide +kernel)]; kernel_rfl) | (rw [if_neg (by decide +kernel)]; exact ⟨rfl, rfl⟩))
    (fun os started H enc _ => elementMoved_lifted os started H enc)
#print axioms elementMoved_holds
end Go.Proofs.Ytnbpfafngidimaa
