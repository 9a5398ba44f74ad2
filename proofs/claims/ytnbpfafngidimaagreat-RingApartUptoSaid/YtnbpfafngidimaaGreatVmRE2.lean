/- A part of the evaluator and of what is told of floats; no conditions. -/
import Derived.Test.YtnbpfafngidimaaGreatVmP67
import Derived.Test.YtnbpfafngidimaaGreatVmRA9
import Derived.Test.YtnbpfafngidimaaGreatVmRD3
namespace Go.Vm
open Go.Proofs Ieee
set_option linter.unusedVariables false
set_option linter.unusedSimpArgs false
set_option maxRecDepth 1000000

/-! ### RingApart's sums -/
theorem sum_filter {α : Type} (p : α → Bool) (f : α → Int) : ∀ (l : List α), ((l.filter p).map f).sum = (l.map fun a => if p a = true then f a else 0).sum
  | [] => rfl
  | a :: r => by
    have ih := sum_filter p f r
    cases h : p a with
    | true => rw [List.filter_cons_of_pos h]; simp [h, ih]
    | false => rw [List.filter_cons_of_neg (by rw [h]; simp)]; simp [h, ih]
theorem sumN_filter {α : Type} (p : α → Bool) (f : α → Nat) : ∀ (l : List α), ((l.filter p).map f).sum ≤ (l.map f).sum
  | [] => Nat.le_refl _
  | a :: r => by
    have ih := sumN_filter p f r
    cases h : p a with
    | true => rw [List.filter_cons_of_pos h]; simp; omega
    | false => rw [List.filter_cons_of_neg (by rw [h]; simp)]; simp; omega
theorem sumT_gS {α : Type} {ys : List α} {w1 w2 : α → Nat} (h1 : ∀ k, 0 < k → ∀ y, ys[k]? = some y → fbF .add (gS (ys.map w1) k) (w1 y) = some (gS (ys.map w1) (k + 1)))
    (h2 : ∀ k, 0 < k → ∀ y, ys[k]? = some y → fbF .add (gS (ys.map w2) k) (w2 y) = some (gS (ys.map w2) (k + 1))) : SumT (ys.map fun y => (w1 y, w2 y)) (fun k => (gS (ys.map w1) k, gS (ys.map w2) k)) where
  zero := rfl
  one := fun z hz => by
    rw [List.getElem?_map] at hz
    cases hy : ys[0]? with
    | none => rw [hy] at hz; cases hz
    | some y =>
      rw [hy] at hz
      cases hz
      show (gS (ys.map w1) (0 + 1), gS (ys.map w2) (0 + 1)) = _
      rw [gS_step hy, gS_step hy]
      rfl
  step := fun k z hk hz => by
    rw [List.getElem?_map] at hz
    cases hy : ys[k]? with
    | none => rw [hy] at hz; cases hz
    | some y =>
      rw [hy] at hz
      cases hz
      intro R K
      unfold addK
      show bindF (fbF .add (gS (ys.map w1) k) (w1 y)) _ = _
      rw [bindF_eq (h1 k hk y hy)]
      show bindF (fbF .add (gS (ys.map w2) k) (w2 y)) _ = _
      rw [bindF_eq (h2 k hk y hy)]
/-! the words -/
def wR1 (h : Th) : Nat := Op.negFloat .f64 (fI h.t)
def wR2 (h : Th) : Nat := fI h.s
def mulTau (a : Nat) : Nat := (fbF .mul a 4594902181429758083).getD 0
def wE1 (h : Th) : Nat := mulTau (fI h.s)
def wE2 (h : Th) : Nat := mulTau (fI h.t)
def hvR (x : El) : Nat × Nat := (Op.negFloat .f64 x.s2, x.s1)
def hvE (x : El) : Nat × Nat := (mulTau x.s1, mulTau x.s2)
def afT (h : Th) : Nat := max h.s.natAbs h.t.natAbs
theorem afT_le {h : Th} (f : FineT h) : afT h ≤ 1000 := by
  have := f.xy
  unfold afT
  omega
theorem wR_is {h : Th} (f : FineT h) : (Is (wR1 h) ((-h.t : Int) : Rat) ∧ (-h.t).natAbs ≤ 1000) ∧ (Is (wR2 h) ((h.s : Int) : Rat) ∧ h.s.natAbs ≤ 1000) := by
  have b := f.xy
  refine ⟨⟨?_, by omega⟩, f.st.1, b.2.2.1⟩
  have := neg_is f.st.2
  rw [show ((-h.t : Int) : Rat) = -(h.t : Rat) by push_cast; rfl]
  exact this
theorem mulTau_is {n : Int} {a : Nat} (hn : n.natAbs ≤ a) (ha : a ≤ 1000) : ∃ v, fbF .mul (fI n) 4594902181429758083 = some (mulTau (fI n)) ∧ Is (mulTau (fI n)) v ∧ (v - n * cV).abs ≤ eps * ((a : Rat) / 5) := by
  have hi : Is (fI n) ((n : Int) : Rat) := fI_is (by omega)
  have n1 := int_abs_le hn
  have c0 : 0 ≤ cV := by have := cV_ge; grind
  have c1 := cV_le'
  have a1 : (a : Rat) ≤ 1000 := nat_cast_le ha
  have e0 : (((a : Nat) : Int) : Rat) = (a : Rat) := rfl
  rw [e0] at n1
  have a0 : (0 : Rat) ≤ (a : Rat) := Rat.le_trans (abs_nonneg _) n1
  have hb : ((n : Rat) * cV).abs ≤ (a : Rat) / 5 := by
    rw [abs_mul, Rat.abs_of_nonneg c0]
    have g1 := Rat.mul_le_mul_of_nonneg_right n1 c0
    have g2 := Rat.mul_le_mul_of_nonneg_left c1 a0
    grind
  obtain ⟨w, v, e1, i1, r1⟩ := mul_is hi is_c (lt_big (by grind))
  have same : mulTau (fI n) = w := by unfold mulTau; rw [e1]; rfl
  rw [same]
  refine ⟨v, e1, i1, ?_⟩
  rcases nat_rat (a := a) with g | g
  · have z : n = 0 := by omega
    subst z
    have ez : ((0 : Int) : Rat) = 0 := rfl
    rw [ez] at r1 ⊢
    rw [rnd_zero' r1 (by grind), show (0 : Rat) - 0 * cV = 0 by grind, abs_zero]
    exact Rat.mul_nonneg (Rat.le_of_lt eps_pos) (by grind)
  · exact r1.le hb (low_1000 (by grind))
section
variable {x y r : Int} (S : Sight (fI x) (fI y) (fI r))
def insS (h : Th) : Bool := inB S h.el
theorem els_filter (gs : List Th) : (els gs).filter (inB S) = els (gs.filter (insS S)) := by
  unfold els insS
  rw [List.filter_map]
  rfl
theorem roZ_all (gs : List Th) : roZ hvR S (els gs) (els gs).length = (gs.filter (insS S)).map fun h => (wR1 h, wR2 h) := by
  unfold roZ
  rw [List.take_length, els_filter]
  unfold els
  rw [List.map_map]
  rfl
theorem reZ_all (gs : List Th) : reZ hvE S (els gs) (els gs).length = (gs.filter (insS S)).map fun h => (wE1 h, wE2 h) := by
  unfold reZ
  rw [List.take_length, els_filter]
  unfold els
  rw [List.map_map]
  rfl
theorem els_length (gs : List Th) : (els gs).length = gs.length := by unfold els; simp
section
variable {cs : List Value} {sz o c : Nat} {gs : List Th} (hx : ElsAt cs o (els gs)) (hf : ∀ h ∈ gs, FineT h) (hl : gs.length ≤ 256) (hfl : inns 0 cs = true) (hFit : Fits (fI x) (fI y) (fI r)) (hsee : ∀ h : Th, FineT h → Seen (fI x) (fI y) S.lw h.el)
include hx hf hl hfl hFit
theorem clean_at (he : ∀ h ∈ gs, erE h.el = 0) (hse : ∀ h ∈ gs, Seen (fI x) (fI y) S.lw h.el) (b : Bool) : FlatCall Tryz.prog 192 [flowV o gs.length c, ciV (fI x) (fI y) (fI r), .bool b] ⟨1, [(0, .cells cs sz)]⟩ (.int .i64 (bif (els gs).any (tooNear S) then 210 else 0)) := by
  have e := els_length gs
  have hck := check_callE (sz := sz) (c := c) (er := erE) hx (fun _ X hX => by
    unfold els at hX
    obtain ⟨h, h1, rfl⟩ := List.mem_map.1 hX
    exact erE_told (hf h h1))
  have h0 : flowEr erE (els gs) = 0 := by
    unfold flowEr
    rw [if_neg (by omega)]
    have : ∀ l : List Int, (∀ e ∈ l, e = 0) → firstEr l = 0 := fun l => by
      induction l with
      | nil => intro _; rfl
      | cons a r ih =>
        intro ha
        unfold firstEr
        rw [if_pos (ha a (by simp))]
        exact ih fun e he => ha e (by simp [he])
    refine this _ fun e hm => ?_
    obtain ⟨X, hX, rfl⟩ := List.mem_map.1 hm
    unfold els at hX
    obtain ⟨h, h1, rfl⟩ := List.mem_map.1 hX
    exact he h h1
  rw [h0, e] at hck
  have ha := asked_call hfl hck hFit
  have := clean_call (S := S) (b := b) (c := c) (sz := sz) hx (by omega) (fun X hX => by
    unfold els at hX
    obtain ⟨h, h1, rfl⟩ := List.mem_map.1 hX
    exact hse h h1) (fun X hX => by
    unfold els at hX
    obtain ⟨h, h1, rfl⟩ := List.mem_map.1 hX
    exact whole_of (hf h h1)) hfl (by rw [e]; exact ha)
  rw [e] at this
  exact this
include hsee
theorem round_at (he : ∀ h ∈ gs, erE h.el = 0) (hnear : ∀ h ∈ gs, tooNear S h.el = false) :
    FlatCall Tryz.prog 36 [flowV o gs.length c, ciV (fI x) (fI y) (fI r)] ⟨1, [(0, .cells cs sz)]⟩
      (roV (gS ((gs.filter (insS S)).map wR1) (gs.filter (insS S)).length) (gS ((gs.filter (insS S)).map wR2) (gs.filter (insS S)).length) 0) := by
  have e := els_length gs
  have hfl2 : ∀ h ∈ gs.filter (insS S), FineT h := fun h hm => hf h (List.mem_filter.1 hm).1
  have hle := List.length_filter_le (insS S) gs
  have g1 := gS_int (ys := gs.filter (insS S)) (wf := wR1) (nf := fun h => -h.t) (fun h hm => (wR_is (hfl2 h hm)).1) (by omega)
  have g2 := gS_int (ys := gs.filter (insS S)) (wf := wR2) (nf := fun h => h.s) (fun h hm => (wR_is (hfl2 h hm)).2) (by omega)
  have hsum := sumT_gS (ys := gs.filter (insS S)) (w1 := wR1) (w2 := wR2) (fun k hk y hy => (g1 k (by have := (List.getElem?_eq_some_iff.1 hy).1; omega)).2 hk y hy) (fun k hk y hy => (g2 k (by have := (List.getElem?_eq_some_iff.1 hy).1; omega)).2 hk y hy)
  have hany : (els gs).any (tooNear S) = false := by
    rw [List.any_eq_false]
    intro X hX
    unfold els at hX
    obtain ⟨h, h1, rfl⟩ := List.mem_map.1 hX
    simp [hnear h h1]
  have hcl := clean_at (sz := sz) (c := c) S hx hf hl hfl hFit he (fun h hm => hsee h (hf h hm)) true
  rw [hany] at hcl
  have hseen : ∀ X ∈ els gs, Seen (fI x) (fI y) S.lw X := fun X hX => by
    unfold els at hX
    obtain ⟨h, h1, rfl⟩ := List.mem_map.1 hX
    exact hsee h (hf h h1)
  have hro := ro_call (S := S) (hv := hvR) (c := c) (sz := sz) hx (by omega) hseen (fun X _ R k => by unfold roH hvR; rw [forceN_eq]) hfl (by rw [e]; exact hcl) (f := fun k => (gS ((gs.filter (insS S)).map wR1) k, gS ((gs.filter (insS S)).map wR2) k)) (by rw [roZ_all]; exact hsum)
  rw [roZ_all, List.length_map, e] at hro
  exact round_call hfl hro
theorem residues_at (he : ∀ h ∈ gs, erE h.el = 0) (hnear : ∀ h ∈ gs, tooNear S h.el = false) :
    FlatCall Tryz.prog 37 [flowV o gs.length c, ciV (fI x) (fI y) (fI r)] ⟨1, [(0, .cells cs sz)]⟩
      (reV (gS ((gs.filter (insS S)).map wE1) (gs.filter (insS S)).length) (gS ((gs.filter (insS S)).map wE2) (gs.filter (insS S)).length) 0) := by
  have e := els_length gs
  have hfl2 : ∀ h ∈ gs.filter (insS S), FineT h := fun h hm => hf h (List.mem_filter.1 hm).1
  have hle := List.length_filter_le (insS S) gs
  have c0 : 0 ≤ cV := by have := cV_ge; grind
  have b1 : ∀ h ∈ gs.filter (insS S), h.s.natAbs ≤ afT h := fun h _ => by unfold afT; omega
  have b2 : ∀ h ∈ gs.filter (insS S), h.t.natAbs ≤ afT h := fun h _ => by unfold afT; omega
  have b3 : ∀ h ∈ gs.filter (insS S), afT h ≤ 1000 := fun h hm => afT_le (hfl2 h hm)
  have g1 := gS_near (ys := gs.filter (insS S)) (wf := wE1) (nf := fun h => h.s) (af := afT) c0 cV_le' b1 b3 (fun h hm => let ⟨v, _, h2, h3⟩ := mulTau_is (b1 h hm) (b3 h hm); ⟨v, h2, h3⟩) (by omega)
  have g2 := gS_near (ys := gs.filter (insS S)) (wf := wE2) (nf := fun h => h.t) (af := afT) c0 cV_le' b2 b3 (fun h hm => let ⟨v, _, h2, h3⟩ := mulTau_is (b2 h hm) (b3 h hm); ⟨v, h2, h3⟩) (by omega)
  have hsum := sumT_gS (ys := gs.filter (insS S)) (w1 := wE1) (w2 := wE2) (fun k hk y hy => (g1 k (by have := (List.getElem?_eq_some_iff.1 hy).1; omega)).2 hk y hy) (fun k hk y hy => (g2 k (by have := (List.getElem?_eq_some_iff.1 hy).1; omega)).2 hk y hy)
  have hany : (els gs).any (tooNear S) = false := by
    rw [List.any_eq_false]
    intro X hX
    unfold els at hX
    obtain ⟨h, h1, rfl⟩ := List.mem_map.1 hX
    simp [hnear h h1]
  have hcl := clean_at (sz := sz) (c := c) S hx hf hl hfl hFit he (fun h hm => hsee h (hf h hm)) true
  rw [hany] at hcl
  have hseen : ∀ X ∈ els gs, Seen (fI x) (fI y) S.lw X := fun X hX => by
    unfold els at hX
    obtain ⟨h, h1, rfl⟩ := List.mem_map.1 hX
    exact hsee h (hf h h1)
  have hre := re_call (S := S) (hv := hvE) (c := c) (sz := sz) hx (by omega) hseen (fun X hX R k => by
    unfold els at hX
    obtain ⟨h, h1, rfl⟩ := List.mem_map.1 hX
    have bx := (hf h h1).xy
    obtain ⟨v1, e1, _⟩ := mulTau_is (n := h.s) (a := 1000) bx.2.2.1 (Nat.le_refl _)
    obtain ⟨v2, e2, _⟩ := mulTau_is (n := h.t) (a := 1000) bx.2.2.2 (Nat.le_refl _)
    unfold reH sclK
    show bindF (fbF .mul (fI h.s) _) (fun x => bindF (fbF .mul (fI h.t) _) fun y => k x y) = _
    rw [bindF_eq e1, bindF_eq e2]
    rfl) hfl (by rw [e]; exact hcl) (f := fun k => (gS ((gs.filter (insS S)).map wE1) k, gS ((gs.filter (insS S)).map wE2) k)) (by rw [reZ_all]; exact hsum)
  rw [reZ_all, List.length_map, e] at hre
  exact residues_call hfl hre
end
end
end Go.Vm
namespace Go.Vm
open Go.Proofs Ieee
set_option linter.unusedVariables false
set_option linter.unusedSimpArgs false
set_option maxRecDepth 1000000

/-! ### RingApart: the sums are alike -/
section
variable {x y r : Int} (S : Sight (fI x) (fI y) (fI r)) {hs : List Th}
def yR1 (h : Th) : Nat := bif insS S h then wR1 h else 0
def yR2 (h : Th) : Nat := bif insS S h then wR2 h else 0
noncomputable def lnT (h : Th) : Nat := lnE h.el
def atT (w : Th → Nat) (hs : List Th) (j : Nat) : Nat := match hs[j]? with
  | some h => w h
  | none => 0
theorem atT_of {w : Th → Nat} {j : Nat} {h : Th} (hk : hs[j]? = some h) : atT w hs j = w h := by unfold atT; rw [hk]
theorem yR_is {h : Th} (f : FineT h) : (Is (yR1 S h) (((if insS S h = true then -h.t else 0) : Int) : Rat) ∧ (if insS S h = true then -h.t else 0 : Int).natAbs ≤ 1000) ∧
    (Is (yR2 S h) (((if insS S h = true then h.s else 0) : Int) : Rat) ∧ (if insS S h = true then h.s else 0 : Int).natAbs ≤ 1000) := by
  have g := wR_is f
  unfold yR1 yR2
  cases hi : insS S h with
  | true => simp only [cond_true, if_true]; exact g
  | false => simp only [cond_false, Bool.false_eq_true, if_false]; exact ⟨⟨is_zero, by decide⟩, ⟨is_zero, by decide⟩⟩
variable (hf : ∀ h ∈ hs, FineT h) (hl : hs.length ≤ 50)
include hf hl
theorem T1_is : ∀ k, k ≤ hs.length → Is (hS (hs.map (yR1 S)) k) ((totI (fun h => if insS S h = true then -h.t else 0) hs k : Int) : Rat) ∧ (∀ h, hs[k]? = some h → fbF .add (hS (hs.map (yR1 S)) k) (yR1 S h) = some (hS (hs.map (yR1 S)) (k + 1))) :=
  hS_int (fun h hm => (yR_is S (hf h hm)).1) (by omega)
theorem T2_is : ∀ k, k ≤ hs.length → Is (hS (hs.map (yR2 S)) k) ((totI (fun h => if insS S h = true then h.s else 0) hs k : Int) : Rat) ∧ (∀ h, hs[k]? = some h → fbF .add (hS (hs.map (yR2 S)) k) (yR2 S h) = some (hS (hs.map (yR2 S)) (k + 1))) :=
  hS_int (fun h hm => (yR_is S (hf h hm)).2) (by omega)
theorem M_is : ∀ k, k ≤ hs.length → (∃ W, Is (hS (hs.map lnT) k) W ∧ W ≤ 2001 * k ∧ (totN afT hs k = 0 → W = 0) ∧ (1 ≤ totN afT hs k → (totN afT hs k : Rat) * (1 - k / 1000) ≤ 5 * W)) ∧
      (∀ h, hs[k]? = some h → fbF .add (hS (hs.map lnT) k) (lnT h) = some (hS (hs.map lnT) (k + 1))) :=
  hS_low (fun h hm => afT_le (hf h hm)) (fun h hm => (lnE_spec (hf h hm)).2) (by omega)
theorem sums_of (hFit : Fits (fI x) (fI y) (fI r)) (hsee : ∀ h : Th, FineT h → Seen (fI x) (fI y) S.lw h.el) (he : ∀ h ∈ hs, erE h.el = 0) (hnear : ∀ h ∈ hs, tooNear S h.el = false) :
    Sums (cellsOf (els hs)) (els hs) (fI x) (fI y) (fI r) (atT (yR1 S) hs) (atT (yR2 S) hs) (atT lnT hs) (fun j => hS (hs.map (yR1 S)) j) (fun j => hS (hs.map (yR2 S)) j) (fun j => hS (hs.map lnT) j) where
  z1 := rfl
  z2 := rfl
  z3 := rfl
  a1 := fun j hj => by
    rw [els_length] at hj
    have hk := List.getElem?_eq_getElem hj
    rw [atT_of hk]
    exact (T1_is S hf hl j (by omega)).2 _ hk
  a2 := fun j hj => by
    rw [els_length] at hj
    have hk := List.getElem?_eq_getElem hj
    rw [atT_of hk]
    exact (T2_is S hf hl j (by omega)).2 _ hk
  a3 := fun j hj => by
    rw [els_length] at hj
    have hk := List.getElem?_eq_getElem hj
    rw [atT_of hk]
    exact (M_is hf hl j (by omega)).2 _ hk
  len := fun j X hX R k => by
    unfold els at hX
    rw [List.getElem?_map] at hX
    cases hk : hs[j]? with
    | none => rw [hk] at hX; cases hX
    | some h =>
      rw [hk] at hX
      cases hX
      rw [atT_of hk]
      exact (lnE_spec (hf h (List.mem_of_getElem? hk))).1 R k
  call := fun j hj => by
    rw [els_length] at hj ⊢
    have hk := List.getElem?_eq_getElem hj
    generalize hs[j] = h at hk
    have hm := List.mem_of_getElem? hk
    rw [atT_of hk, atT_of hk]
    have hx : ElsAt (cellsOf (els hs)) (j * 4) (els [h]) := fun i X hX => by
      have hi : i = 0 := by
        have := (List.getElem?_eq_some_iff.1 hX).1
        unfold els at this
        simp at this
        omega
      subst hi
      have e2 : (els hs)[j]? = some X := by
        unfold els at hX ⊢
        rw [List.getElem?_map, hk]
        exact hX
      have := elsAt_cells (els hs) j X e2
      rw [Nat.zero_add] at this
      rw [Nat.zero_mul, Nat.add_zero]
      exact this
    have hfl : inns 0 (cellsOf (els hs)) = true := (row_cells _).2.1
    have key := round_at (sz := 4) (c := hs.length - j) S hx (fun g hg => by
      rw [List.mem_singleton] at hg
      subst hg
      exact hf _ hm) (by show 1 ≤ 256; omega) hfl hFit hsee (fun g hg => by
      rw [List.mem_singleton] at hg
      subst hg
      exact he _ hm) (fun g hg => by
      rw [List.mem_singleton] at hg
      subst hg
      exact hnear _ hm)
    have e1 : roV (yR1 S h) (yR2 S h) 0 = roV (gS (([h].filter (insS S)).map wR1) ([h].filter (insS S)).length) (gS (([h].filter (insS S)).map wR2) ([h].filter (insS S)).length) 0 := by
      unfold yR1 yR2
      cases hi : insS S h with
      | true => rw [List.filter_cons_of_pos hi]; rfl
      | false => rw [List.filter_cons_of_neg (by rw [hi]; simp)]; rfl
    rw [e1]
    exact key
/-- the sums' words against those of the whole -/
theorem turn_same : eqF (hS (hs.map (yR1 S)) hs.length) (gS ((hs.filter (insS S)).map wR1) (hs.filter (insS S)).length) = true ∧ eqF (hS (hs.map (yR2 S)) hs.length) (gS ((hs.filter (insS S)).map wR2) (hs.filter (insS S)).length) = true := by
  have hfl2 : ∀ h ∈ hs.filter (insS S), FineT h := fun h hm => hf h (List.mem_filter.1 hm).1
  have hle := List.length_filter_le (insS S) hs
  have g1 := (gS_int (ys := hs.filter (insS S)) (wf := wR1) (nf := fun h => -h.t) (fun h hm => (wR_is (hfl2 h hm)).1) (by omega) _ (Nat.le_refl _)).1
  have g2 := (gS_int (ys := hs.filter (insS S)) (wf := wR2) (nf := fun h => h.s) (fun h hm => (wR_is (hfl2 h hm)).2) (by omega) _ (Nat.le_refl _)).1
  have t1 := (T1_is S hf hl _ (Nat.le_refl _)).1
  have t2 := (T2_is S hf hl _ (Nat.le_refl _)).1
  have e1 : totI (fun h : Th => -h.t) (hs.filter (insS S)) (hs.filter (insS S)).length = totI (fun h => if insS S h = true then -h.t else 0) hs hs.length := by
    unfold totI
    rw [List.take_length, List.take_length]
    exact sum_filter _ _ _
  have e2 : totI (fun h : Th => h.s) (hs.filter (insS S)) (hs.filter (insS S)).length = totI (fun h => if insS S h = true then h.s else 0) hs hs.length := by
    unfold totI
    rw [List.take_length, List.take_length]
    exact sum_filter _ _ _
  rw [e1] at g1
  rw [e2] at g2
  rw [eqF_is t1 g1, eqF_is t2 g2]
  simp
theorem near_same : ∀ (R : Type) (k : Bool → Option R),
    (timesK R (gS ((hs.filter (insS S)).map wE1) (hs.filter (insS S)).length) (gS ((hs.filter (insS S)).map wE2) (hs.filter (insS S)).length) fun a b => sclK R a b 4618760256179416344 fun a b =>
      bindF (fbF .mul 4427038433705197568 (hS (hs.map lnT) hs.length)) fun m => nearK R (gS ((hs.filter (insS S)).map wR1) (hs.filter (insS S)).length) (gS ((hs.filter (insS S)).map wR2) (hs.filter (insS S)).length) a b m k) = k true := by
  have hfl2 : ∀ h ∈ hs.filter (insS S), FineT h := fun h hm => hf h (List.mem_filter.1 hm).1
  have hle := List.length_filter_le (insS S) hs
  have c0 : 0 ≤ cV := by have := cV_ge; grind
  have b1 : ∀ h ∈ hs.filter (insS S), h.s.natAbs ≤ afT h := fun h _ => by unfold afT; omega
  have b2 : ∀ h ∈ hs.filter (insS S), h.t.natAbs ≤ afT h := fun h _ => by unfold afT; omega
  have b2' : ∀ h ∈ hs.filter (insS S), (-h.t).natAbs ≤ afT h := fun h _ => by unfold afT; omega
  have b3 : ∀ h ∈ hs.filter (insS S), afT h ≤ 1000 := fun h hm => afT_le (hfl2 h hm)
  obtain ⟨V1, i1, j1⟩ := (gS_near (ys := hs.filter (insS S)) (wf := wE1) (nf := fun h => h.s) (af := afT) c0 cV_le' b1 b3 (fun h hm => let ⟨v, _, h2, h3⟩ := mulTau_is (b1 h hm) (b3 h hm); ⟨v, h2, h3⟩) (by omega) _ (Nat.le_refl _)).1
  obtain ⟨V2, i2, j2⟩ := (gS_near (ys := hs.filter (insS S)) (wf := wE2) (nf := fun h => h.t) (af := afT) c0 cV_le' b2 b3 (fun h hm => let ⟨v, _, h2, h3⟩ := mulTau_is (b2 h hm) (b3 h hm); ⟨v, h2, h3⟩) (by omega) _ (Nat.le_refl _)).1
  have g1 := (gS_int (ys := hs.filter (insS S)) (wf := wR1) (nf := fun h => -h.t) (fun h hm => (wR_is (hfl2 h hm)).1) (by omega) _ (Nat.le_refl _)).1
  have g2 := (gS_int (ys := hs.filter (insS S)) (wf := wR2) (nf := fun h => h.s) (fun h hm => (wR_is (hfl2 h hm)).2) (by omega) _ (Nat.le_refl _)).1
  obtain ⟨W, m1, m2, m3, m4⟩ := (M_is hf hl _ (Nat.le_refl _)).1
  have t1 := tot_le b2' (hs.filter (insS S)).length
  have t2 := tot_le b1 (hs.filter (insS S)).length
  have neg : totI (fun h : Th => -h.t) (hs.filter (insS S)) (hs.filter (insS S)).length = -totI (fun h : Th => h.t) (hs.filter (insS S)) (hs.filter (insS S)).length := by
    unfold totI
    generalize List.take _ _ = l
    induction l with
    | nil => rfl
    | cons a r ih => simp only [List.map_cons, List.sum_cons, ih]; omega
  have hAB : totN afT (hs.filter (insS S)) (hs.filter (insS S)).length ≤ totN afT hs hs.length := by
    unfold totN
    rw [List.take_length, List.take_length]
    exact sumN_filter _ _ _
  have hB := totN_le (af := afT) (m := 1000) (fun h hm => afT_le (hf h hm)) hs.length
  have kl : ((hs.filter (insS S)).length : Rat) ≤ 50 := nat_cast_le (show (hs.filter (insS S)).length ≤ 50 by omega)
  have kl0 : (0 : Rat) ≤ ((hs.filter (insS S)).length : Rat) := nat_cast_le (Nat.zero_le _)
  have nl : (hs.length : Rat) ≤ 50 := nat_cast_le hl
  have hV1 : (-V2 - (totI (fun h : Th => -h.t) (hs.filter (insS S)) (hs.filter (insS S)).length : Rat) * cV).abs ≤ ((hs.filter (insS S)).length : Rat) * (eps * ((totN afT (hs.filter (insS S)) (hs.filter (insS S)).length : Rat) / 5)) := by
    rw [neg, show ((-totI (fun h : Th => h.t) (hs.filter (insS S)) (hs.filter (insS S)).length : Int) : Rat) = -((totI (fun h : Th => h.t) (hs.filter (insS S)) (hs.filter (insS S)).length : Int) : Rat) by push_cast; rfl]
    have : -V2 - -((totI (fun h : Th => h.t) (hs.filter (insS S)) (hs.filter (insS S)).length : Int) : Rat) * cV = -(V2 - ((totI (fun h : Th => h.t) (hs.filter (insS S)) (hs.filter (insS S)).length : Int) : Rat) * cV) := by grind
    rw [this, abs_neg]
    exact j2
  obtain ⟨w1, w2, m, p1, p2, p3, p4⟩ := ring_near (A := totN afT (hs.filter (insS S)) (hs.filter (insS S)).length) (B := totN afT hs hs.length) g1 g2 (neg_is i2) i1 hV1 j1 kl kl0 t1 t2 hAB (by omega) m1 (by grind) m3 (fun g => by
    have h1 := m4 g
    have h2 : (1 : Rat) ≤ ((totN afT hs hs.length : Nat) : Rat) := nat_cast_le g
    have h3 := Rat.mul_nonneg (show (0 : Rat) ≤ ((totN afT hs hs.length : Nat) : Rat) by grind) (show (0 : Rat) ≤ 1 - (hs.length : Rat) / 1000 - 19 / 20 by grind)
    generalize ((totN afT hs hs.length : Nat) : Rat) = B at *
    grind)
  intro R k
  unfold timesK
  rw [forceN_eq]
  unfold sclK
  simp only
  rw [bindF_eq p1, bindF_eq p2, bindF_eq p3]
  exact p4 R k
end
end Go.Vm
namespace Go.Vm
open Go.Proofs
set_option linter.unusedVariables false
set_option linter.unusedSimpArgs false
set_option maxRecDepth 1000000

/-! ### RingApart's own equations: case nn -/
section
variable (L L1 L2 : Hand) (fi : Fi) (R : Type) (gi gk : GI) (gc : GC) (st : St) (ap : Ap) (sm : KG2B) (of : KG2C) (len : KCF) (sc : KCFC) (ti : KCC) (ne : KCCFB) (ga gx gy g1 g2 gb : HT) (mi m1 m2 : MT) (ml : List (Nat × MSum)) (gl : List (Nat × HSum)) (cs es o1 o2 : List Value)
  (sz n c j1 j2 j i k a c1 c2 rr t1 t2 m z1 z2 x1 x2 : Nat) (x y r e : Int) (K : Ex → Env → Objs → Option R)
theorem ma_round_nn : evTop (maC la6 fi gi gk gc st ap sm of len sc ti ne [] []) 60 noL 1 232 maA (maE (nilS) (nilS) j i k a) ⟨5, maD es n c1 c2 rr ++ [(0, .cells cs sz)]⟩ (takeC [18, 8, 11, 13, 16, 17, 15, 10] [3, 4, 2] K) =
    bif decide ((j : Int) < n) then
      rdN i fun b1 => rdN k fun b2 => maK fi gk es n j i k a b1 b2 (K .ret (maE (nilS) (nilS) j i k a) (maD es n c1 c2 rr)) fun j i k a => K .normal (maE (nilS) (nilS) j i k a) (maD es n c1 c2 rr)
    else K (.exit 0) (maE (nilS) (nilS) j i k a) (maD es n c1 c2 rr) := by kernel_rfl
theorem ma_top_nn : evTop (maC la6 fi gi gk gc st ap sm of len sc ti ne [(30, saysV (.bool true) ga), (36, saysV (roV x1 x2 0) gx), (37, saysV (reV z1 z2 0) gy)] [(31, leavesV 4 (fun b => ofV (sl3 b n) true) mi), (34, saysM (thV_ nilS 0) g1), (35, saysM (thV_ nilS 0) g2)]) 60 (orL 29 (slimL [29, 8, 10, 26, 27, 28, 24, 21, 22] [3, 4, 2, 0] L2) (slimL [18, 8, 11, 13, 16, 17, 15, 10] [3, 4, 2, 0] L1)) 1 232 (codeOf 6) (enumE 0 (maArgs n c x y r)) ⟨1, [(0, .cells cs sz)]⟩ (takeC [6] [] K) =
    (ga R [] ⟨2, [(1, .cells [.int .i16 x, .int .i16 y] 0), (0, .cells cs sz)]⟩ <| mi R [.slice (some ⟨0, 0, none⟩) n c] ⟨2, [(1, .cells [.int .i16 x, .int .i16 y] 0), (0, .cells cs sz)]⟩ fun es => of R x y fun c1 c2 => forceN (floatOfInt .f64 r) fun rr =>
      bif decide ((n : Int) > 50) then K .ret [(6, .bool true)] [] else bif decide (r < 1) then K .ret [(6, .bool true)] [] else sm R x y fun t => bif t then
        g1 R [.agg ⟨[sl3 2 n]⟩, ciV c1 c2 rr] ⟨5, [(4, .cells [.complex .f64 c1 c2, .float .f64 rr] 0), (3, .cells [sl3 2 n] 0), (2, .cells es 4), (1, .cells [.int .i16 x, .int .i16 y] 0), (0, .cells cs sz)]⟩ <| g2 R [.agg ⟨[sl3 2 n]⟩, ciV c1 c2 rr] ⟨5, [(4, .cells [.complex .f64 c1 c2, .float .f64 rr] 0), (3, .cells [sl3 2 n] 0), (2, .cells es 4), (1, .cells [.int .i16 x, .int .i16 y] 0), (0, .cells cs sz)]⟩ <|
          L1 R 1 232 maA (maE (nilS) (nilS) 0 0 0 0) ⟨5, maD es n c1 c2 rr ++ [(0, .cells cs sz)]⟩ (leaveE 0 (thenE (fun en H => evTop (maC la6 fi gi gk gc st ap sm of len sc ti ne [(30, saysV (.bool true) ga), (36, saysV (roV x1 x2 0) gx), (37, saysV (reV z1 z2 0) gy)] [(31, leavesV 4 (fun b => ofV (sl3 b n) true) mi), (34, saysM (thV_ nilS 0) g1), (35, saysM (thV_ nilS 0) g2)]) 60 (orL 29 (slimL [29, 8, 10, 26, 27, 28, 24, 21, 22] [3, 4, 2, 0] L2) (slimL [18, 8, 11, 13, 16, 17, 15, 10] [3, 4, 2, 0] L1)) 1 232 (seqN 14 (codeOf 6)) en H (takeC [6] [] K)) (takeC [6] [] K)))
      else K .ret [(6, .bool true)] []) := by kernel_rfl
theorem ma_mid_nn : evTop (maC la6 fi gi gk gc st ap sm of len sc ti ne [(30, saysV (.bool true) ga), (36, saysV (roV x1 x2 0) gx), (37, saysV (reV z1 z2 0) gy)] [(31, leavesV 4 (fun b => ofV (sl3 b n) true) mi), (34, saysM (thV_ nilS 0) g1), (35, saysM (thV_ nilS 0) g2)]) 60 (orL 29 (slimL [29, 8, 10, 26, 27, 28, 24, 21, 22] [3, 4, 2, 0] L2) (slimL [18, 8, 11, 13, 16, 17, 15, 10] [3, 4, 2, 0] L1)) 1 232 (seqN 14 (codeOf 6)) (maE (nilS) (nilS) j i k a) ⟨5, maD es n c1 c2 rr ++ [(0, .cells cs sz)]⟩ (takeC [6] [] K) =
    (gx R [.agg ⟨[sl3 2 n]⟩, ciV c1 c2 rr] ⟨5, maD es n c1 c2 rr ++ [(0, .cells cs sz)]⟩ <| gy R [.agg ⟨[sl3 2 n]⟩, ciV c1 c2 rr] ⟨5, maD es n c1 c2 rr ++ [(0, .cells cs sz)]⟩ <|
      bif (i : Int) != (0 : Nat) then K .ret [(6, .bool false)] [] else bif (k : Int) != (0 : Nat) then K .ret [(6, .bool false)] [] else
        L2 R 1 232 maB (mbE 0 0 0 0 z1 z2 x1 x2) ⟨5, maD es n c1 c2 rr ++ [(0, .cells cs sz)]⟩ (leaveE 2 (thenE (fun en H => evTop (maC la6 fi gi gk gc st ap sm of len sc ti ne [(30, saysV (.bool true) ga), (36, saysV (roV x1 x2 0) gx), (37, saysV (reV z1 z2 0) gy)] [(31, leavesV 4 (fun b => ofV (sl3 b n) true) mi), (34, saysM (thV_ nilS 0) g1), (35, saysM (thV_ nilS 0) g2)]) 60 (orL 29 (slimL [29, 8, 10, 26, 27, 28, 24, 21, 22] [3, 4, 2, 0] L2) (slimL [18, 8, 11, 13, 16, 17, 15, 10] [3, 4, 2, 0] L1)) 1 232 (seqN 22 (codeOf 6)) en H (takeC [6] [] K)) (takeC [6] [] K)))) := by kernel_rfl
end
end Go.Vm
namespace Go.Vm
open Go.Proofs
set_option linter.unusedVariables false
set_option linter.unusedSimpArgs false
set_option maxRecDepth 1000000

/-! ### RingApart is told: case nn -/
section
variable {cs es : List Value} {sz c : Nat} {xs : List El} {x y r : Int} {y1 y2 lw T1 T2 M : Nat → Nat} {x1 x2 z1 z2 : Nat} (S : Sight (fI x) (fI y) (fI r))
theorem ma_step_nn (hx : ElsAt es 0 xs) (hn : xs.length < 900000) (hes : inns 0 es = true) (hn1 : sites S (-1) xs xs.length = []) (hn2 : sites S 1 xs xs.length = []) {j : Nat} {X : El} (hk : xs[j]? = some X) :
    BaseOk Tryz.prog 1 232 ⟨5, maD es xs.length (fI x) (fI y) (fI r) ++ [(0, .cells cs sz)]⟩ (maE nilS nilS j (cnt S (-1) xs j) (cnt S 1 xs j) j) ⟨5, maD es xs.length (fI x) (fI y) (fI r) ++ [(0, .cells cs sz)]⟩ .normal (maE nilS nilS ((j + 1 : Nat) : Int) (cnt S (-1) xs (j + 1)) (cnt S 1 xs (j + 1)) ((j + 1 : Nat) : Int)) ⟨5, maD es xs.length (fI x) (fI y) (fI r) ++ [(0, .cells cs sz)]⟩ (fun Q a w => maA.wp Tryz.prog Q a w) := by
  have hj := (List.getElem?_eq_some_iff.1 hk).1
  exact round_told (C := maR la6 [] []) (H0 := ⟨5, maD es xs.length (fI x) (fI y) (fI r) ++ [(0, .cells cs sz)]⟩) (e := (maE nilS nilS j (cnt S (-1) xs j) (cnt S 1 xs j) j)) (H := ⟨5, maD es xs.length (fI x) (fI y) (fI r) ++ [(0, .cells cs sz)]⟩) (n := 60) (ts := [18, 8, 11, 13, 16, 17, 15, 10]) (bo := [3, 4, 2]) (bs := [])
    (A := maD es xs.length (fI x) (fI y) (fI r)) (B := [(0, .cells cs sz)]) (D := maD es xs.length (fI x) (fI y) (fI r)) (e1 := (maE nilS nilS ((j + 1 : Nat) : Int) (cnt S (-1) xs (j + 1)) (cnt S 1 xs (j + 1)) ((j + 1 : Nat) : Int))) (O1 := maD es xs.length (fI x) (fI y) (fI r)) (maR_ok _ .nil .nil) zm_ok maA_loops
    (by unfold maR
        refine (ma_round_nn ..).trans ?_
        rw [decide_eq_true (show (j : Int) < xs.length by omega), cond_true]
        refine (rdN_site S hn1 hk _ _).trans ?_
        refine (rdN_site S hn2 hk _ _).trans ?_
        exact maK_at S hx hn hk _ _ _) rfl
    (by simp only [maD, sl3, List.cons_append, List.nil_append, renOs, renO, renL, renV]
        rw [rens_flat hes]
        rfl) rfl rfl rfl rfl rfl
theorem ma_last_nn (hes : inns 0 es = true) {i k : Nat} :
    BaseOk Tryz.prog 1 232 ⟨5, maD es xs.length (fI x) (fI y) (fI r) ++ [(0, .cells cs sz)]⟩ (maE nilS nilS xs.length i k xs.length) ⟨5, maD es xs.length (fI x) (fI y) (fI r) ++ [(0, .cells cs sz)]⟩ (.exit 0) (maE nilS nilS xs.length i k xs.length) ⟨5, maD es xs.length (fI x) (fI y) (fI r) ++ [(0, .cells cs sz)]⟩ (fun Q a w => maA.wp Tryz.prog Q a w) := by
  exact round_told (C := maR la6 [] []) (H0 := ⟨5, maD es xs.length (fI x) (fI y) (fI r) ++ [(0, .cells cs sz)]⟩) (e := maE nilS nilS xs.length i k xs.length) (H := ⟨5, maD es xs.length (fI x) (fI y) (fI r) ++ [(0, .cells cs sz)]⟩) (n := 60) (ts := [18, 8, 11, 13, 16, 17, 15, 10]) (bo := [3, 4, 2]) (bs := [])
    (A := maD es xs.length (fI x) (fI y) (fI r)) (B := [(0, .cells cs sz)]) (D := maD es xs.length (fI x) (fI y) (fI r)) (e1 := maE nilS nilS xs.length i k xs.length) (O1 := maD es xs.length (fI x) (fI y) (fI r)) (maR_ok _ .nil .nil) zm_ok maA_loops
    (by unfold maR
        refine (ma_round_nn ..).trans ?_
        rw [decide_eq_false (by omega)]; rfl) rfl
    (by simp only [maD, sl3, List.cons_append, List.nil_append, renOs, renO, renL, renV]
        rw [rens_flat hes]
        rfl) rfl rfl rfl rfl rfl
theorem mb_step_nn (hx : ElsAt es 0 xs) (hn : xs.length < 900000) (hes : inns 0 es = true) (hs : Sums es xs (fI x) (fI y) (fI r) y1 y2 lw T1 T2 M) {j : Nat} {X : El} (hk : xs[j]? = some X) :
    BaseOk Tryz.prog 1 232 ⟨5, maD es xs.length (fI x) (fI y) (fI r) ++ [(0, .cells cs sz)]⟩ (mbE j (T1 j) (T2 j) (M j) z1 z2 x1 x2) ⟨5, maD es xs.length (fI x) (fI y) (fI r) ++ [(0, .cells cs sz)]⟩ .normal (mbE ((j + 1 : Nat) : Int) (T1 (j + 1)) (T2 (j + 1)) (M (j + 1)) z1 z2 x1 x2) ⟨5, maD es xs.length (fI x) (fI y) (fI r) ++ [(0, .cells cs sz)]⟩ (fun Q a w => maB.wp Tryz.prog Q a w) := by
  have hj := (List.getElem?_eq_some_iff.1 hk).1
  have hc : FlatCall Tryz.prog 36 [.agg ⟨[.slice (some ⟨2, 0 + j * 4, none⟩) (j + 1 - j) (xs.length - j)]⟩, ciV (fI x) (fI y) (fI r)] ⟨5, maD es xs.length (fI x) (fI y) (fI r) ++ [(0, .cells cs sz)]⟩ (roV (y1 j) (y2 j) 0) := by
    rw [Nat.zero_add, show j + 1 - j = 1 by omega]
    exact FlatCall.one (b := 2) (hs.call j hj) hes (by simp [maD]) rfl
  exact round_told (C := maR la6 [(36, saysV (roV (y1 j) (y2 j) 0) (saysR Tryz.prog 36 (roV (y1 j) (y2 j) 0)))] []) (H0 := ⟨5, maD es xs.length (fI x) (fI y) (fI r) ++ [(0, .cells cs sz)]⟩) (e := mbE j (T1 j) (T2 j) (M j) z1 z2 x1 x2) (H := ⟨5, maD es xs.length (fI x) (fI y) (fI r) ++ [(0, .cells cs sz)]⟩) (n := 60) (ts := [29, 8, 10, 26, 27, 28, 24, 21, 22]) (bo := [3, 4, 2]) (bs := [])
    (A := maD es xs.length (fI x) (fI y) (fI r)) (B := [(0, .cells cs sz)]) (D := maD es xs.length (fI x) (fI y) (fI r)) (e1 := mbE ((j + 1 : Nat) : Int) (T1 (j + 1)) (T2 (j + 1)) (M (j + 1)) z1 z2 x1 x2) (O1 := maD es xs.length (fI x) (fI y) (fI r)) (maR_ok _ (.cons (says_ok rfl) h36 .nil) .nil) zm_ok maB_loops
    (by unfold maR
        refine (mb_round_5 ..).trans ?_
        rw [decide_eq_true (show (j : Int) < xs.length by omega), cond_true, fiReal_fair, wrap_up (by omega), cutB_at hj hn, says_eq hc, bindF_val (hs.a1 j hj), bindF_val (hs.a2 j hj), idx_ok, cond_true, rC_strength hx hk, hs.len j X hk, bindF_val (hs.a3 j hj), fiReal_fair]) rfl
    (by simp only [maD, sl3, List.cons_append, List.nil_append, renOs, renO, renL, renV]
        rw [rens_flat hes]
        rfl) rfl rfl rfl rfl rfl
theorem mb_last_nn (hes : inns 0 es = true) {t1 t2 m : Nat} :
    BaseOk Tryz.prog 1 232 ⟨5, maD es xs.length (fI x) (fI y) (fI r) ++ [(0, .cells cs sz)]⟩ (mbE xs.length t1 t2 m z1 z2 x1 x2) ⟨5, maD es xs.length (fI x) (fI y) (fI r) ++ [(0, .cells cs sz)]⟩ (.exit 2) (mbE xs.length t1 t2 m z1 z2 x1 x2) ⟨5, maD es xs.length (fI x) (fI y) (fI r) ++ [(0, .cells cs sz)]⟩ (fun Q a w => maB.wp Tryz.prog Q a w) := by
  exact round_told (C := maR la6 [(36, saysV (roV 0 0 0) (saysR Tryz.prog 36 (roV 0 0 0)))] []) (H0 := ⟨5, maD es xs.length (fI x) (fI y) (fI r) ++ [(0, .cells cs sz)]⟩) (e := mbE xs.length t1 t2 m z1 z2 x1 x2) (H := ⟨5, maD es xs.length (fI x) (fI y) (fI r) ++ [(0, .cells cs sz)]⟩) (n := 60) (ts := [29, 8, 10, 26, 27, 28, 24, 21, 22]) (bo := [3, 4, 2]) (bs := [])
    (A := maD es xs.length (fI x) (fI y) (fI r)) (B := [(0, .cells cs sz)]) (D := maD es xs.length (fI x) (fI y) (fI r)) (e1 := mbE xs.length t1 t2 m z1 z2 x1 x2) (O1 := maD es xs.length (fI x) (fI y) (fI r)) (maR_ok _ (.cons (says_ok rfl) h36 .nil) .nil) zm_ok maB_loops
    (by unfold maR
        refine (mb_round_5 ..).trans ?_
        rw [decide_eq_false (by omega)]; rfl) rfl
    (by simp only [maD, sl3, List.cons_append, List.nil_append, renOs, renO, renL, renV]
        rw [rens_flat hes]
        rfl) rfl rfl rfl rfl rfl
theorem ma_case_nn (hx : ElsAt es 0 xs) (hn : xs.length ≤ 50) (hes : inns 0 es = true) (hn1 : sites S (-1) xs xs.length = []) (hn2 : sites S 1 xs xs.length = []) (hr : ¬ r < 1) (hsm : smI x y = true) (hA : ∀ H, FlatCall Tryz.prog 30 [] H (.bool true))
    (hI : MemCall Tryz.prog 31 [.slice (some ⟨0, 0, none⟩) xs.length c] ⟨2, [(1, .cells [.int .i16 x, .int .i16 y] 0), (0, .cells cs sz)]⟩ (ofV (sl3 2 xs.length) true) (AH.push ⟨2, [(1, .cells [.int .i16 x, .int .i16 y] 0), (0, .cells cs sz)]⟩ (.cells es 4)))
    (h1 : FlatCall Tryz.prog 34 [.agg ⟨[sl3 2 xs.length]⟩, ciV (fI x) (fI y) (fI r)] ⟨5, [(4, .cells [.complex .f64 (fI x) (fI y), .float .f64 (fI r)] 0), (3, .cells [sl3 2 xs.length] 0), (2, .cells es 4), (1, .cells [.int .i16 x, .int .i16 y] 0), (0, .cells cs sz)]⟩ (thV_ nilS 0))
    (h2 : FlatCall Tryz.prog 35 [.agg ⟨[sl3 2 xs.length]⟩, ciV (fI x) (fI y) (fI r)] ⟨5, [(4, .cells [.complex .f64 (fI x) (fI y), .float .f64 (fI r)] 0), (3, .cells [sl3 2 xs.length] 0), (2, .cells es 4), (1, .cells [.int .i16 x, .int .i16 y] 0), (0, .cells cs sz)]⟩ (thV_ nilS 0))
    (hX : FlatCall Tryz.prog 36 [flowV 0 xs.length xs.length, ciV (fI x) (fI y) (fI r)] ⟨1, [(0, .cells es 4)]⟩ (roV x1 x2 0)) (hY : FlatCall Tryz.prog 37 [flowV 0 xs.length xs.length, ciV (fI x) (fI y) (fI r)] ⟨1, [(0, .cells es 4)]⟩ (reV z1 z2 0))
    (hs : Sums es xs (fI x) (fI y) (fI r) y1 y2 lw T1 T2 M) (q1 : eqF (T1 xs.length) x1 = true) (q2 : eqF (T2 xs.length) x2 = true)
    (q3 : ∀ (R : Type) (k : Bool → Option R), (timesK R z1 z2 fun a b => sclK R a b 4618760256179416344 fun a b => bindF (fbF .mul 4427038433705197568 (M xs.length)) fun m => nearK R x1 x2 a b m k) = k true) :
    FlatCall Tryz.prog 6 (maArgs xs.length c x y r) ⟨1, [(0, .cells cs sz)]⟩ (.bool true) := by
  have hBA : BaseRounds Tryz.prog 1 232 ⟨5, maD es xs.length (fI x) (fI y) (fI r) ++ [(0, .cells cs sz)]⟩ maA (maE nilS nilS 0 0 0 0) ⟨5, maD es xs.length (fI x) (fI y) (fI r) ++ [(0, .cells cs sz)]⟩ (.exit 0) (maE nilS nilS xs.length (cnt S (-1) xs xs.length) (cnt S 1 xs xs.length) xs.length) ⟨5, maD es xs.length (fI x) (fI y) (fI r) ++ [(0, .cells cs sz)]⟩ :=
    base_count (P := Tryz.prog) (lo := 1) (sz := 232) (a := maA) (H0 := ⟨5, maD es xs.length (fI x) (fI y) (fI r) ++ [(0, .cells cs sz)]⟩) (E := fun j : Nat => (maE nilS nilS j (cnt S (-1) xs j) (cnt S 1 xs j) j)) (H := fun _ => ⟨5, maD es xs.length (fI x) (fI y) (fI r) ++ [(0, .cells cs sz)]⟩) xs.length 0 (fun j _ hj => by
      have hk' := List.getElem?_eq_getElem (show j < xs.length by omega)
      exact ma_step_nn S hx (by omega) hes hn1 hn2 hk') (base_end (by intro h; cases h) (by simp only [Nat.zero_add]; exact ma_last_nn hes))
  have hBA' := @base_loop _ _ _ _ _ _ _ _ _ hBA
  have hBB : BaseRounds Tryz.prog 1 232 ⟨5, maD es xs.length (fI x) (fI y) (fI r) ++ [(0, .cells cs sz)]⟩ maB (mbE 0 0 0 0 z1 z2 x1 x2) ⟨5, maD es xs.length (fI x) (fI y) (fI r) ++ [(0, .cells cs sz)]⟩ (.exit 2) (mbE xs.length (T1 xs.length) (T2 xs.length) (M xs.length) z1 z2 x1 x2) ⟨5, maD es xs.length (fI x) (fI y) (fI r) ++ [(0, .cells cs sz)]⟩ := by
    have := base_count (P := Tryz.prog) (lo := 1) (sz := 232) (a := maB) (H0 := ⟨5, maD es xs.length (fI x) (fI y) (fI r) ++ [(0, .cells cs sz)]⟩) (E := fun j : Nat => mbE j (T1 j) (T2 j) (M j) z1 z2 x1 x2) (H := fun _ => ⟨5, maD es xs.length (fI x) (fI y) (fI r) ++ [(0, .cells cs sz)]⟩) (ex := .exit 2) (e' := mbE xs.length (T1 xs.length) (T2 xs.length) (M xs.length) z1 z2 x1 x2) (H' := ⟨5, maD es xs.length (fI x) (fI y) (fI r) ++ [(0, .cells cs sz)]⟩) xs.length 0 (fun j _ hj => by
      have hk' := List.getElem?_eq_getElem (show j < xs.length by omega)
      exact mb_step_nn hx (by omega) hes hs hk') (base_end (by intro h; cases h) (by simp only [Nat.zero_add]; exact mb_last_nn hes))
    simp only [hs.z1, hs.z2, hs.z3] at this
    exact this
  have hBB' := @base_loop _ _ _ _ _ _ _ _ _ hBB
  have hX' : FlatCall Tryz.prog 36 [.agg ⟨[sl3 2 xs.length]⟩, ciV (fI x) (fI y) (fI r)] ⟨5, maD es xs.length (fI x) (fI y) (fI r) ++ [(0, .cells cs sz)]⟩ (roV x1 x2 0) := FlatCall.one (b := 2) hX hes (by simp [maD]) rfl
  have hY' : FlatCall Tryz.prog 37 [.agg ⟨[sl3 2 xs.length]⟩, ciV (fI x) (fI y) (fI r)] ⟨5, maD es xs.length (fI x) (fI y) (fI r) ++ [(0, .cells cs sz)]⟩ (reV z1 z2 0) := FlatCall.one (b := 2) hY hes (by simp [maD]) rfl
  have h : evTop (maR la6 [(30, saysV (.bool true) (saysR Tryz.prog 30 (.bool true))), (36, saysV (roV x1 x2 0) (saysR Tryz.prog 36 (roV x1 x2 0))), (37, saysV (reV z1 z2 0) (saysR Tryz.prog 37 (reV z1 z2 0)))] [(31, leavesV 4 (fun b => ofV (sl3 b xs.length) true) (leavesR Tryz.prog 31 4 (fun b => ofV (sl3 b xs.length) true) es)), (34, saysM (thV_ nilS 0) (saysR Tryz.prog 34 (thV_ nilS 0))), (35, saysM (thV_ nilS 0) (saysR Tryz.prog 35 (thV_ nilS 0)))]) 60 (orL 29 (slimL [29, 8, 10, 26, 27, 28, 24, 21, 22] [3, 4, 2, 0] (told Tryz.prog (.exit 2) (mbE xs.length (T1 xs.length) (T2 xs.length) (M xs.length) z1 z2 x1 x2) ⟨5, maD es xs.length (fI x) (fI y) (fI r) ++ [(0, .cells cs sz)]⟩)) (slimL [18, 8, 11, 13, 16, 17, 15, 10] [3, 4, 2, 0] (told Tryz.prog (.exit 0) (maE nilS nilS xs.length (cnt S (-1) xs xs.length) (cnt S 1 xs xs.length) xs.length) ⟨5, maD es xs.length (fI x) (fI y) (fI r) ++ [(0, .cells cs sz)]⟩))) 1 232 (codeOf 6) (enumE 0 (maArgs xs.length c x y r)) ⟨1, [(0, .cells cs sz)]⟩ (takeC [6] [] fun ex e O => some (ex, e, O)) = some (.ret, [(6, .bool true)], []) := by
    unfold maR
    refine (ma_top_nn ..).trans ?_
    rw [says_eq (hA _), leaves_eq hI, of2_eq, forceN_eq, decide_eq_false (show ¬ ((xs.length : Nat) : Int) > 50 by omega), cond_false, decide_eq_false hr, cond_false, smB_eq, hsm, cond_true]
    refine Eq.trans (says_eq h1) ?_
    refine Eq.trans (says_eq h2) ?_
    refine (told_eq @hBA' _ _).trans ?_
    rw [leave_then]
    refine (ma_mid_nn ..).trans ?_
    rw [says_eq hX', says_eq hY', show (((cnt S (-1) xs xs.length : Nat) : Int) != ((0 : Nat) : Int)) = false from by rw [show cnt S (-1) xs xs.length = 0 from by unfold cnt; rw [hn1]; rfl]; rfl, cond_false, show (((cnt S 1 xs xs.length : Nat) : Int) != ((0 : Nat) : Int)) = false from by rw [show cnt S 1 xs xs.length = 0 from by unfold cnt; rw [hn2]; rfl]; rfl, cond_false]
    refine (told_eq @hBB' _ _).trans ?_
    rw [leave_then]
    refine (mb_end ..).trans ?_
    simp only [q1, q2, cond_true]
    exact q3 _ _
  exact fun_flat (C := maR la6 [(30, saysV (.bool true) (saysR Tryz.prog 30 (.bool true))), (36, saysV (roV x1 x2 0) (saysR Tryz.prog 36 (roV x1 x2 0))), (37, saysV (reV z1 z2 0) (saysR Tryz.prog 37 (reV z1 z2 0)))] [(31, leavesV 4 (fun b => ofV (sl3 b xs.length) true) (leavesR Tryz.prog 31 4 (fun b => ofV (sl3 b xs.length) true) es)), (34, saysM (thV_ nilS 0) (saysR Tryz.prog 34 (thV_ nilS 0))), (35, saysM (thV_ nilS 0) (saysR Tryz.prog 35 (thV_ nilS 0)))]) (args := maArgs xs.length c x y r) (H := ⟨1, [(0, .cells cs sz)]⟩) (maR_ok _ (.cons (says_ok rfl) h30 (.cons (says_ok rfl) h36 (.cons (says_ok rfl) h37 .nil))) (.cons leaves_ok h31 (.cons (saysM_ok rfl) h34 (.cons (saysM_ok rfl) h35 .nil)))) zm_ok Tryz.func6 ma_body
    (fun a _ => orL_ok (slimL_ok (told_ok _ _ _ _ a)) (slimL_ok (told_ok _ _ _ _ a))) (Nat.le_of_ble_eq_true rfl) h (.inr rfl) (vs := [.bool true]) rfl rfl
end
end Go.Vm
