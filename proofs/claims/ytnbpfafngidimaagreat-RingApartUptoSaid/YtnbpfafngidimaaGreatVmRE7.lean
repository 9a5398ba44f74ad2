/- A part of the evaluator and of what is told of floats; no conditions. -/
import Derived.Test.YtnbpfafngidimaaGreatVmRW1
import Derived.Test.YtnbpfafngidimaaGreatRows
import Derived.ProofKit
import Derived.JoinedCond
namespace Go.Proofs.YtnbpfafngidimaaGreat
open Go.ChangeShapes Go.WideShapes Go.ChangeAt Go.RowKit Go.Vm Go.Deep

set_option maxRecDepth 100000
set_option linter.unusedVariables false
theorem own6_ : ownKnob Tryz.prog.godebug = none := by kernel_rfl
theorem laid6_ : laidOutB Tryz.prog = true := by kernel_rfl

theorem one_le_bulk {H : Type} (d : DataW H) : 1 ≤ Rows.uptoBulk d := by
  cases d with
  | lit l => cases l <;> simp [Rows.uptoBulk]
  | nil => simp [Rows.uptoBulk]
  | ptr d => simp [Rows.uptoBulk]
  | slice elems spare => simp [Rows.uptoBulk]
  | agg parts => simp [Rows.uptoBulk]
  | iface t d => simp [Rows.uptoBulk]
  | map entries => simp [Rows.uptoBulk]
  | held h => simp [Rows.uptoBulk]
theorem bulk_things {H : Type} : ∀ (l : List (DataW H)), (∀ d ∈ l, ∃ a b c e, d = .agg [a, b, c, e]) → 5 * l.length ≤ Rows.uptoBulkAll l
  | [], _ => by simp [Rows.uptoBulkAll]
  | d :: r, h => by
    have ih := bulk_things r fun x hx => h x (by simp [hx])
    obtain ⟨a, b, c, e, rfl⟩ := h d (by simp)
    have := one_le_bulk a
    have := one_le_bulk b
    have := one_le_bulk c
    have := one_le_bulk e
    simp only [Rows.uptoBulkAll, Rows.uptoBulk, List.length_cons]
    omega
theorem part_le_bulk {H : Type} {d : DataW H} {l : List (DataW H)} (h : d ∈ l) : Rows.uptoBulk d ≤ Rows.uptoBulkAll l := by
  induction l with
  | nil => cases h
  | cons x r ih =>
    simp only [Rows.uptoBulkAll]
    cases List.mem_cons.1 h with
    | inl e => subst e; omega
    | inr e => have := ih e; omega

theorem ring_contract (H : Type) (enc : TypeId × Value → H) (W : World) (base : Nat) (args : Array Value) (ds gs : List (DataW H)) (before : List MemPlace)
    (hval0 : ∀ (j : Nat) t v, Tryz.f6.params[j]? = some t → args[j]? = some v → Value.okWide Tryz.prog W .any base t v)
    (hW : DataW.Whole enc Tryz.prog Tryz.f6.params.toList Rows.ringApartSpec.vars false W args.toList ds gs before) (hk : Rows.uptoSmall H (ds ++ gs) = true) :
    Calls Tryz.prog 6 args W fun e W' => ∃ v, e = .returned v ∧ Rows.ringApartSpec.post enc Tryz.prog Tryz.f6 false true false false W args v W' := by
  have hval : ∀ (j : Nat) t v, Tryz.f6.params[j]? = some t → args[j]? = some v → Value.okWide Tryz.prog W .any base t v := hval0
  have hW' := hW
  obtain ⟨p, q, hA0, hV, rfl, hfz, _⟩ := hW
  have hA : DataW.TrodAll enc Tryz.prog W 0 (fun _ => true) true Tryz.f6.params.toList args.toList ds p := hA0
  rw [Tryz.params6] at hA hval
  obtain ⟨v0, v1, v2, d0, d1, d2, p0, p1, p2, rfl, rfl, rfl, h0, h1, h2⟩ := trodAll_three hA
  obtain ⟨rfl, rfl⟩ := trodVars_none hV
  have h0k := h0
  have h1k := h1
  have h2k := h2
  obtain ⟨r, rfl, rfl, rfl, hr⟩ := open_int Tryz.underlying22 (hval 2 22 v2 rfl rfl) h2
  obtain ⟨ca, rfl, hca⟩ := okWide_struct Tryz.underlying54 (hval 1 54 v1 rfl rfl)
  obtain ⟨fuel1, hf1⟩ := h1
  obtain ⟨x, y, e1, e2⟩ := gauss_open hf1
  have ep1 : p1 = [] := e2
  subst ep1
  have eca : ca = #[.int .i16 x, .int .i16 y] := by
    obtain ⟨l⟩ := ca
    simp only [Value.cells] at e1
    have e1' : l = [.int .i16 x, .int .i16 y] := e1
    rw [e1']
  subst eca
  clear hA0 hval0
  simp only [List.append_nil] at hW' hfz
  have hlt : ∀ z ∈ p0, z.block < W.heap.size := fun z hz => by simpa using hW'.lt z hz
  have hr2 : r ≤ 40000 := by
    have := wf_int hr
    have a2 : IntKind.i16.max = 32767 := rfl
    omega
  have fin : ∀ (W' : World), Below W.heap.size W W' → Rows.ringApartSpec.post enc Tryz.prog Tryz.f6 false true false false W #[v0, .agg #[.int .i16 x, .int .i16 y], .int .i16 r] (.bool true) W' := by
    intro W' hb
    refine ⟨_, _, _, [], p0 ++ ([] ++ []), [], hW', ?_, trodAll_mk3 (Below.trod laid6_ (by kernel_rfl) (of_decide_eq_true (by kernel_rfl)) h0k hb hlt) (Below.trod laid6_ (by kernel_rfl) (of_decide_eq_true (by kernel_rfl)) h1k hb (fun z hz => by cases hz)) (Below.trod laid6_ (by kernel_rfl) (of_decide_eq_true (by kernel_rfl)) h2k hb (fun z hz => by cases hz)), rfl, hb.frame _, fun h => by cases h⟩
    exact trodAll_mk1 (shut_bool Tryz.underlying4 true)
  obtain ⟨a0, len0, cap0, hv0⟩ := okWide_slice Tryz.underlying53 (hval 0 53 v0 rfl rfl)
  obtain ⟨fuel, hf⟩ := h0
  rcases open_slice Tryz.underlying53 hf with ⟨hcs, hx⟩ | ⟨a, len, cap, m, n, D, Pl, hcs, _, hlc, _, hm, hx, hel⟩
  · -- nil
    have ev : v0 = .slice none 0 0 := by
      subst hv0
      simpa [Value.cells] using hcs
    subst ev
    have hc := ring_none' (v := nilS) (x := x) (y := y) (r := r) (fun H _ => of_nil H) hr2 (fun K => ma_nilN ..)
    refine (hc (fun _ => none) W _ ⟨fun _ _ => rfl, fun k o hm => by simp at hm, fun k o o' hm => by simp at hm, ⟨fun k o hm => by simp at hm, fun k o k' o' s s' hm => by simp at hm⟩⟩ (.cons (.nilSlice 0 0) (.cons (.agg (.cons (.int _ _) (.cons (.int _ _) .nil))) (.cons (.int _ _) .nil)))).mono fun e W' ⟨he, hb⟩ => ?_
    subst he
    exact ⟨_, rfl, fin W' hb⟩
  · have ev : v0 = .slice (some a) len cap := by
      subst hv0
      simpa [Value.cells] using hcs
    subst ev
    have hspot : a.spot = none := by
      have := hval 0 53 _ rfl rfl
      simp only [Value.okWide, Tryz.underlying53, Cell.okWide, Cell.ok] at this
      exact this.2.2.2.1
    have ea : (⟨a.block, a.off + 0, none⟩ : Addr) = a := by
      cases a
      simp only at hspot
      subst hspot
      rfl
    have hm' : m = cap := by simpa using hm
    have hsl : ∀ {ρ : Map}, ρ 0 = some ⟨a.block, a.off, 0⟩ → VRels ρ [.slice (some ⟨0, 0, none⟩) len cap, .agg ⟨[.int .i16 x, .int .i16 y]⟩, .int .i16 r] [.slice (some a) len cap, .agg #[.int .i16 x, .int .i16 y], .int .i16 r] := fun {ρ} hρ => by
      have := VRel.slice (ρ := ρ) (k := 0) (o := 0) (n := len) (c := cap) (s := ⟨a.block, a.off, 0⟩) hρ
      simp only [Nat.add_zero] at this
      rw [Nat.add_zero] at ea
      rw [ea] at this
      exact .cons this (.cons (.agg (.cons (.int _ _) (.cons (.int _ _) .nil))) (.cons (.int _ _) .nil))
    rcases Nat.eq_zero_or_pos len with hz | hpos
    · subst hz
      have hc := ring_none' (v := .slice (some ⟨0, 0, none⟩) 0 cap) (x := x) (y := y) (r := r) (fun H _ => of_slice2 cap H) hr2 (fun K => ma_nilS ..)
      refine (hc (oneMap ⟨a.block, a.off, 0⟩) W _ ⟨fun k hk => ?_, fun k o hm => by simp at hm, fun k o o' hm => by simp at hm, ⟨fun k o hm => by simp at hm, fun k o k' o' s s' hm => by simp at hm⟩⟩ (hsl rfl)).mono fun e W' ⟨he, hb⟩ => ?_
      · have hk1 : 1 ≤ k := hk
        unfold oneMap
        cases hb : Nat.beq k 0 with
        | true => have := Nat.eq_of_beq_eq_true hb; omega
        | false => rfl
      · subst he
        exact ⟨_, rfl, fin W' hb⟩
    · obtain ⟨T, hT⟩ := choose_lt (α := Th) (n := len) (p := fun i t => W.cells? 0 (a.add (i * 6)) 6 = some t.cs ∧ t.p.natAbs ≤ 1000 ∧ ∃ b c d e, D i = .agg [b, c, d, e]) (fun i hi => by
        obtain ⟨cs', g1, g2⟩ := hel i (by omega)
        obtain ⟨t, b, c, d, e, k1, k2, k3⟩ := thing_open g2
        subst k1
        refine ⟨t, g1, k2, b, c, d, e, ?_⟩
        exact congrArg Prod.fst k3)
      have hd0 : d0 = .slice ((List.range len).map D) ((List.range (m - len)).map fun j => D (len + j)) := congrArg Prod.fst hx
      have hp0 : p0 = MemPlace.row a (m * Tryz.prog.cellsOf 145) ++ (List.range m).flatMap Pl := congrArg Prod.snd hx
      have hbulk : len < 900000 := by
        have b1 : Rows.uptoBulkAll ([d0, d1, .lit (.int .i16 r)] ++ ([] : List (DataW H))) ≤ 1048576 := of_decide_eq_true hk
        have b2 := part_le_bulk (d := d0) (l := [d0, d1, .lit (.int .i16 r)] ++ ([] : List (DataW H))) (by simp)
        have b3 := bulk_things ((List.range len).map D) (fun d hd => by
          obtain ⟨i, hi, rfl⟩ := List.mem_map.1 hd
          exact (hT i (List.mem_range.1 hi)).2.2)
        rw [List.length_map, List.length_range] at b3
        rw [hd0] at b2 b1
        simp only [Rows.uptoBulk] at b2
        omega
      obtain ⟨cs, c1, c2, c3⟩ := things_at (hs := T) hspot hpos (fun i hi => (hT i hi).1) (fun j hj => by
        refine hfz a.block (a.off + j) ?_
        rw [hp0]
        refine List.mem_append_left _ ?_
        unfold MemPlace.row
        refine List.mem_map.2 ⟨j, List.mem_range.2 ?_, rfl⟩
        have h6 : Tryz.prog.cellsOf 145 = 6 := rfl
        rw [h6]
        have := Nat.mul_le_mul_right 6 (show len ≤ m by omega)
        omega)
      have hlen : ((List.range len).map T).length = len := by simp
      have hc := ring_call (c := cap) (sz := 6) (x := x) (y := y) c1 (by omega) c2 (fun t ht => by
        obtain ⟨i, hi, rfl⟩ := List.mem_map.1 ht
        exact (hT i (List.mem_range.1 hi)).2.1) hr2
      rw [hlen] at hc
      refine (hc (oneMap ⟨a.block, a.off, 0⟩) W _ c3 (hsl rfl)).mono fun e W' ⟨he, hb⟩ => ?_
      subst he
      exact ⟨_, rfl, fin W' hb⟩

theorem ringApart_lifted (os : Os) (started : os.Started) (H : Type) (enc : TypeId × Value → H) (F : Stop.Interp) :
    ReturnsInHanded {} Tryz.checked os 6 .any ((Rows.OpenSpec.upto Rows.ringApartSpec).pre6 enc Tryz.prog Tryz.f6 Rows.ringApartUptoRow.domain false) (((Rows.OpenSpec.upto Rows.ringApartSpec).at F).post enc Tryz.prog Tryz.f6 false true false false) := by
  refine returnsInHanded_of_cond (C := Tryz.checked) (s := Rows.OpenSpec.upto Rows.ringApartSpec) (k := Rows.uptoSmall) rfl own6_ started (by kernel_rfl) Tryz.func6
    (OpenSpec.witness (enc := enc) (C := Tryz.checked) (s := Rows.OpenSpec.upto Rows.ringApartSpec) (k := Rows.uptoSmall) rfl false ⟨#[], #[.slice none 0 0, .agg #[.int .i16 0, .int .i16 0], .int .i16 0], []⟩ 8 (by kernel_rfl) (by kernel_rfl) (by kernel_rfl)
      (x := ([.nil, .agg [.lit (.int .i16 0), .lit (.int .i16 0)], .lit (.int .i16 0)], [], [])) (by kernel_rfl) rfl (by kernel_rfl)) ?_
  intro W base args ds gs before hval hW _ hk _
  exact ring_contract H enc W base args ds gs before hval hW hk

theorem ringApartUpto_holds : Rows.RingApartUptoSaid :=
  OpenClaim.holds_of_cond 6 Tryz.f6 rfl rfl rfl rfl rfl rfl rfl ⟨rfl, rfl, rfl, rfl, rfl⟩ rfl rfl rfl rfl rfl (by kernel_rfl) Tryz.func6 (by kernel_rfl)
    (of_decide_eq_true (by kernel_rfl)) (by unfold Func.isWrapper; first | (rw [if_pos (by decide +kernel)]; kernel_rfl) | (rw [if_neg (by decide +kernel)]; exact ⟨rfl, rfl⟩))
    (fun os started H enc _ F => ringApart_lifted os started H enc F)
end Go.Proofs.YtnbpfafngidimaaGreat
