/- PanelThrough holds: whatever lists are handed in it returns true, and they read as they did; no conditions. -/
import Derived.Test.YtnbpfafngidimaaGreatVmV18
import Derived.JoinedCond
namespace Go.Proofs.YtnbpfafngidimaaGreat
open Go.ChangeShapes Go.WideShapes Go.ChangeAt Go.RowKit Go.Vm Go.Deep

set_option maxRecDepth 100000
set_option linter.unusedVariables false
def PairQ (cs : List Value) : Prop := ∃ a b : Int, cs = [.int .i64 a, .int .i64 b]
def FiveQ (cs : List Value) : Prop := ∃ (so : Bool) (a b c d : Int), cs = [.bool so, .int .i64 a, .int .i64 b, .int .i64 c, .int .i64 d]
theorem pair_q {cs : List Value} (h : PairQ cs) : cs.length = 2 ∧ inns 0 cs = true := by
  obtain ⟨a, b, rfl⟩ := h
  exact ⟨rfl, rfl⟩
theorem five_q {cs : List Value} (h : FiveQ cs) : cs.length = 5 ∧ inns 0 cs = true := by
  obtain ⟨so, a, b, c, d, rfl⟩ := h
  exact ⟨rfl, rfl⟩
theorem slice_rel {ρ : Map} {j len cap : Nat} {a : Addr} (hs : a.spot = none) (hρ : ρ j = some ⟨a.block, a.off, 0⟩) : VRel ρ (.slice (some ⟨j, 0, none⟩) len cap) (.slice (some a) len cap) := by
  have := VRel.slice (ρ := ρ) (k := j) (o := 0) (n := len) (c := cap) (s := ⟨a.block, a.off, 0⟩) hρ
  simp only [Nat.add_zero] at this
  have ea : (⟨a.block, a.off, none⟩ : Addr) = a := by
    cases a
    simp only at hs
    subst hs
    rfl
  rw [ea] at this
  exact this
/-- the places, the elements: told -/
theorem places_arg {W : World} {v : Value} (h : v = .slice none 0 0 ∨ (∃ (a : Addr) (cap : Nat), v = .slice (some a) 0 cap ∧ a.spot = none) ∨
    ∃ (a : Addr) (len cap : Nat) (g : Nat → List Value) (cs : List Value), v = .slice (some a) len cap ∧ a.spot = none ∧ 0 < len ∧ (∀ i, i < len → PairQ (g i)) ∧ (∀ i k, i < len → k < 2 → cs[i * 2 + k]? = (g i)[k]?) ∧ ∀ ρ, OHas ρ (.cells cs 2) ⟨a.block, a.off, 0⟩ W) :
    ∃ (r : Option Spot) (V : Value) (L : Nat) (A B : Nat → Int), ∀ ρ : Map, ρ 0 = r → VRel ρ V v ∧ ArgP ρ W 0 V L fun cs => PlAt cs L A B := by
  rcases h with rfl | ⟨a, cap, rfl, hs⟩ | ⟨a, len, cap, g, cs, rfl, hs, hpos, hg, hcs, ho⟩
  · exact ⟨none, .slice none 0 0, 0, fun _ => 0, fun _ => 0, fun ρ hρ => ⟨.nilSlice 0 0, .none none 0 rfl stays_none rfl⟩⟩
  · exact ⟨some ⟨a.block, a.off, 0⟩, .slice (some ⟨0, 0, none⟩) 0 cap, 0, fun _ => 0, fun _ => 0, fun ρ hρ => ⟨slice_rel hs hρ, .none (some ⟨0, 0, none⟩) cap rfl (stays_some (by decide)) rfl⟩⟩
  · obtain ⟨F, hF⟩ := choose_lt (α := Int × Int) (n := len) (p := fun i r => g i = [.int .i64 r.1, .int .i64 r.2]) (fun i hi => by
      obtain ⟨x, y, h⟩ := hg i hi
      exact ⟨(x, y), h⟩)
    refine ⟨some ⟨a.block, a.off, 0⟩, .slice (some ⟨0, 0, none⟩) len cap, len, fun i => (F i).1, fun i => (F i).2, fun ρ hρ => ⟨slice_rel hs hρ, .some cap cs 2 ⟨a.block, a.off, 0⟩ rfl hpos (fun i hi => ⟨?_, ?_⟩) hρ (ho ρ)⟩⟩
    · have := hcs i 0 hi (by decide)
      rw [hF i hi, Nat.add_zero, Nat.mul_comm] at this
      exact this
    · have := hcs i 1 hi (by decide)
      rw [hF i hi, Nat.mul_comm] at this
      exact this
theorem elements_arg {W : World} {v : Value} (h : v = .slice none 0 0 ∨ (∃ (a : Addr) (cap : Nat), v = .slice (some a) 0 cap ∧ a.spot = none) ∨
    ∃ (a : Addr) (len cap : Nat) (g : Nat → List Value) (cs : List Value), v = .slice (some a) len cap ∧ a.spot = none ∧ 0 < len ∧ (∀ i, i < len → FiveQ (g i)) ∧ (∀ i k, i < len → k < 5 → cs[i * 5 + k]? = (g i)[k]?) ∧ ∀ ρ, OHas ρ (.cells cs 5) ⟨a.block, a.off, 0⟩ W) :
    ∃ (r : Option Spot) (V : Value) (L : Nat) (So : Nat → Bool) (X Y S T : Nat → Int), ∀ ρ : Map, ρ 1 = r → VRel ρ V v ∧ ArgP ρ W 1 V L fun cs => FvAt cs L So X Y S T := by
  rcases h with rfl | ⟨a, cap, rfl, hs⟩ | ⟨a, len, cap, g, cs, rfl, hs, hpos, hg, hcs, ho⟩
  · exact ⟨none, .slice none 0 0, 0, fun _ => true, fun _ => 0, fun _ => 0, fun _ => 0, fun _ => 0, fun ρ hρ => ⟨.nilSlice 0 0, .none none 0 rfl stays_none rfl⟩⟩
  · exact ⟨some ⟨a.block, a.off, 0⟩, .slice (some ⟨1, 0, none⟩) 0 cap, 0, fun _ => true, fun _ => 0, fun _ => 0, fun _ => 0, fun _ => 0, fun ρ hρ => ⟨slice_rel hs hρ, .none (some ⟨1, 0, none⟩) cap rfl (stays_some (by decide)) rfl⟩⟩
  · obtain ⟨F, hF⟩ := choose_lt (α := Bool × Int × Int × Int × Int) (n := len) (p := fun i r => g i = [.bool r.1, .int .i64 r.2.1, .int .i64 r.2.2.1, .int .i64 r.2.2.2.1, .int .i64 r.2.2.2.2]) (fun i hi => by
      obtain ⟨so, x, y, s, t, h⟩ := hg i hi
      exact ⟨(so, x, y, s, t), h⟩)
    have at_ : ∀ i k, i < len → k < 5 → cs[5 * i + k]? = ([Value.bool (F i).1, .int .i64 (F i).2.1, .int .i64 (F i).2.2.1, .int .i64 (F i).2.2.2.1, .int .i64 (F i).2.2.2.2])[k]? := fun i k hi hk => by
      have := hcs i k hi hk
      rw [hF i hi, Nat.mul_comm] at this
      exact this
    refine ⟨some ⟨a.block, a.off, 0⟩, .slice (some ⟨1, 0, none⟩) len cap, len, fun i => (F i).1, fun i => (F i).2.1, fun i => (F i).2.2.1, fun i => (F i).2.2.2.1, fun i => (F i).2.2.2.2, fun ρ hρ => ⟨slice_rel hs hρ, .some cap cs 5 ⟨a.block, a.off, 0⟩ rfl hpos ⟨fun j hj => at_ j 0 hj (by decide), fun j hj => at_ j 1 hj (by decide), fun j hj => at_ j 2 hj (by decide), fun j hj => at_ j 3 hj (by decide), fun j hj => at_ j 4 hj (by decide)⟩ hρ (ho ρ)⟩⟩

theorem through_contract (H : Type) (enc : TypeId × Value → H) (W : World) (base : Nat) (args : Array Value) (ds gs : List (DataW H)) (before : List MemPlace)
    (hval0 : ∀ (j : Nat) t v, Tryz.f8.params[j]? = some t → args[j]? = some v → Value.okWide Tryz.prog W .any base t v)
    (hW : DataW.Whole enc Tryz.prog Tryz.f8.params.toList Rows.panelThroughSpec.vars false W args.toList ds gs before) :
    Calls Tryz.prog 8 args W fun e W' => ∃ v, e = .returned v ∧ Rows.panelThroughSpec.post enc Tryz.prog Tryz.f8 false true false false W args v W' := by
  have hval : ∀ (j : Nat) t v, Tryz.f8.params[j]? = some t → args[j]? = some v → Value.okWide Tryz.prog W .any base t v := hval0
  have hW' := hW
  obtain ⟨p, q, hA0, hV, rfl, hfz, _⟩ := hW
  have hA : DataW.TrodAll enc Tryz.prog W 0 (fun _ => true) true Tryz.f8.params.toList args.toList ds p := hA0
  rw [Tryz.params8] at hA hval
  obtain ⟨v0, v1, d0, d1, p0, p1, rfl, rfl, rfl, h0, h1⟩ := trodAll_two hA
  obtain ⟨rfl, rfl⟩ := trodVars_none hV
  clear hA0 hval0
  simp only [List.append_nil] at hW' hfz
  have hlt0 : ∀ z ∈ p0, z.block < W.heap.size := fun z hz => hW'.lt z (by simp [hz])
  have hlt1 : ∀ z ∈ p1, z.block < W.heap.size := fun z hz => hW'.lt z (by simp [hz])
  have fin : ∀ (W' : World), Below W.heap.size W W' → Rows.panelThroughSpec.post enc Tryz.prog Tryz.f8 false true false false W #[v0, v1] (.bool true) W' := by
    intro W' hb
    refine ⟨_, _, _, [], p0 ++ p1, [], hW', ?_, trodAll_mk2 (Below.trod laid8_ (by kernel_rfl) (of_decide_eq_true (by kernel_rfl)) h0 hb hlt0) (Below.trod laid8_ (by kernel_rfl) (of_decide_eq_true (by kernel_rfl)) h1 hb hlt1), rfl, hb.frame _, fun h => by cases h⟩
    exact trodAll_mk1 (shut_bool Tryz.underlying4 true)
  have a0 := arg_open (t := 82) (e := 85) (c := 2) (by kernel_rfl) (by decide) Tryz.underlying82 (hval 0 82 v0 rfl rfl) h0 (fun b j hm => hfz b j (List.mem_append_left _ hm)) (Q := PairQ) (fun cs => pair_q) fun h => pair_open h
  have a1 := arg_open (t := 83) (e := 87) (c := 5) (by kernel_rfl) (by decide) Tryz.underlying83 (hval 1 83 v1 rfl rfl) h1 (fun b j hm => hfz b j (List.mem_append_right _ hm)) (Q := FiveQ) (fun cs => five_q) fun h => five_open h
  obtain ⟨r0, V0, L, A, B, g0⟩ := places_arg a0
  obtain ⟨r1, V1, M, So, X, Y, S, T, g1⟩ := elements_arg a1
  obtain ⟨x0, y0⟩ := g0 (twoMap r0 r1) rfl
  obtain ⟨x1, y1⟩ := g1 (twoMap r0 r1) rfl
  refine (law_at (two_inv r0 r1) y0 y1 _ (.cons x0 (.cons x1 .nil))).mono fun e W' ⟨he, hb⟩ => ?_
  subst he
  exact ⟨_, rfl, fin W' hb⟩

theorem panelThrough_lifted (os : Os) (started : os.Started) (H : Type) (enc : TypeId × Value → H) :
    ReturnsInHanded {} Tryz.checked os 8 .any (Rows.panelThroughSpec.pre6 enc Tryz.prog Tryz.f8 Rows.panelThroughRow.domain false) (Rows.panelThroughSpec.post enc Tryz.prog Tryz.f8 false true false false) := by
  refine returnsInHanded_of_change (C := Tryz.checked) own8_ started (by kernel_rfl) Tryz.func8
    (ChangeSpec.witness6 (enc := enc) (C := Tryz.checked) false ⟨#[], #[.slice none 0 0, .slice none 0 0], []⟩ 8 (by kernel_rfl) (by kernel_rfl) (by kernel_rfl) (by kernel_rfl)) ?_
  intro W base args ds gs before hval hW _ _
  exact through_contract H enc W base args ds gs before hval hW

theorem panelThrough_holds : Rows.PanelThroughSaid :=
  OpenClaim.holds_of_wide 8 Tryz.f8 rfl rfl rfl rfl rfl rfl rfl ⟨rfl, rfl, rfl, rfl, rfl⟩ rfl rfl rfl rfl rfl (by kernel_rfl) Tryz.func8 (by kernel_rfl)
    (of_decide_eq_true (by kernel_rfl)) (by unfold Func.isWrapper; first | (rw [if_pos (by decide +kernel)]; kernel_rfl) | (rw [if_neg (by decide +kernel)]; exact ⟨rfl, rfl⟩))
    (fun os started H enc _ => panelThrough_lifted os started H enc)
end Go.Proofs.YtnbpfafngidimaaGreat
