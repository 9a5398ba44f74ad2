/- A part of the evaluator and of what is told of floats; no conditions. -/
import Derived.Test.YtnbpfafngidimaaGreatVmV6
import Derived.Test.YtnbpfafngidimaaGreatVmRD4
import Derived.Test.YtnbpfafngidimaaGreatVmZ9
namespace Go.Vm
open Go.Proofs
set_option linter.unusedVariables false
set_option linter.unusedSectionVars false
set_option linter.unusedSimpArgs false

/-! ### Linear systems: stage by stage -/
def Wc (n : Nat) (W0 : Nat → Nat → Nat) : Nat → Nat → Nat → Nat
  | 0 => W0
  | c + 1 => stepW (swp c (pvs (Wc n W0 c) c (n - (c + 1))) (Wc n W0 c)) c
def pvc (n : Nat) (W0 : Nat → Nat → Nat) (c : Nat) : Nat := pvs (Wc n W0 c) c (n - (c + 1))
def fic (n : Nat) (W0 : Nat → Nat → Nat) : Nat → Nat → Int
  | 0 => fun i => i
  | c + 1 => fun i => fic n W0 c (tr c (pvc n W0 c) i)
def psc (n : Nat) (W0 : Nat → Nat → Nat) : Nat → Nat → Nat
  | 0 => fun _ => 0
  | c + 1 => upd1 (psc n W0 c) c (Wc n W0 c (pvc n W0 c) c)
def osc (n : Nat) (W0 : Nat → Nat → Nat) : Nat → Nat → Bool
  | 0 => fun _ => false
  | c + 1 => upd1 (osc n W0 c) c (not (Nat.beq (pvc n W0 c) c))
def stS (n : Nat) (W0 : Nat → Nat → Nat) (oo : Nat → AObj) (c : Nat) : AH := stH (n + 2) n c (fic n W0 c) (Wc n W0 c) (psc n W0 c) (osc n W0 c) oo
theorem gt_is {a b : Nat} {x y : Rat} (ha : Is a x) (hb : Is b y) : (ordW a b == some .gt) = decide (y < x) := by
  rw [order_is ha hb]
  by_cases h1 : x < y
  · have : ¬ y < x := by grind
    simp [h1, this]
  · by_cases h2 : x = y
    · subst h2; simp [h1]
    · have : y < x := by grind
      simp [h1, h2, this]
theorem pvs_top {W : Nat → Nat → Nat} {c : Nat} : ∀ m, (∀ r, c ≤ r → r ≤ c + m → Fin (W r c)) → ∀ r, c ≤ r → r ≤ c + m → (vl (W r c)).abs ≤ (vl (W (pvs W c m) c)).abs
  | 0, h, r, h1, h2 => by
    rw [show r = c by omega]
    exact Rat.le_refl
  | m + 1, h, r, h1, h2 => by
    have ih := pvs_top m (fun r a b => h r a (by omega))
    have hl := pvs_lo W c m
    have e := gt_is (abs_is (vl_is (h (c + 1 + m) (by omega) (by omega)))) (abs_is (vl_is (h (pvs W c m) hl.1 (by omega))))
    unfold pvs
    rw [e]
    by_cases g : (vl (W (pvs W c m) c)).abs < (vl (W (c + 1 + m) c)).abs
    · rw [if_pos (by simpa using g)]
      rcases Nat.lt_or_ge r (c + 1 + m) with q | q
      · have := ih r h1 (by omega); grind
      · rw [show r = c + 1 + m by omega]; exact Rat.le_refl
    · rw [if_neg (by simpa using g)]
      rcases Nat.lt_or_ge r (c + 1 + m) with q | q
      · exact ih r h1 (by omega)
      · rw [show r = c + 1 + m by omega]; grind
section
variable {n : Nat} {W0 : Nat → Nat → Nat} {B0 D0 : Rat} (hB : ∀ r j, r < n → j < n → Le B0 (W0 r j)) (hD : ∀ r, r < n → Le D0 (W0 r n)) (hn : n ≤ 8) (tB : tau ≤ B0) (tD : tau ≤ D0) (bB : B0 * 300 ≤ (2 : Rat) ^ (300 : Int)) (bD : D0 * 300 ≤ (2 : Rat) ^ (300 : Int))
include hB hD hn tB tD bB bD
theorem elim_of : ∀ l, l ≤ n → (∀ c, c < l → vl (Wc n W0 c (pvc n W0 c) c) ≠ 0) → Elim n l (Wc n W0) (pvc n W0)
  | 0, hl, h => ⟨hl, fun c hc => absurd hc (Nat.not_lt_zero c), fun c hc => absurd hc (Nat.not_lt_zero c), fun c hc => absurd hc (Nat.not_lt_zero c), fun c hc => absurd hc (Nat.not_lt_zero c)⟩
  | l + 1, hl, h => by
    have E := elim_of l (by omega) fun c hc => h c (by omega)
    refine ⟨hl, fun c hc => rfl, fun c hc => ?_, fun c hc => h c hc, fun c hc => ?_⟩
    · have := pvs_lo (Wc n W0 c) c (n - (c + 1))
      unfold pvc
      omega
    · rcases Nat.lt_or_ge c l with g | g
      · exact E.top c g
      · rw [show c = l by omega]
        intro r h1 h2
        exact pvs_top (n - (l + 1)) (fun r a b => ((E.bounds hB hD hn tB tD bB bD l (Nat.le_refl _) r a (by omega)).1 l (Nat.le_refl _) (by omega)).1) r h1 (by omega)
omit hB hD hn tB tD bB bD in
theorem Elim.steps {l : Nat} {W : Nat → Nat → Nat → Nat} {pv : Nat → Nat} (E : Elim n l W pv) (hB : ∀ r j, r < n → j < n → Le B0 (W 0 r j)) (hD : ∀ r, r < n → Le D0 (W 0 r n)) (hn : n ≤ 8) (tB : tau ≤ B0) (tD : tau ≤ D0) (bB : B0 * 300 ≤ (2 : Rat) ^ (300 : Int)) (bD : D0 * 300 ≤ (2 : Rat) ^ (300 : Int)) {c : Nat} (hc : c < l) : Steps n c (swp c (pv c) (W c)) := by
  have bnd := E.bounds hB hD hn tB tD bB bD c (by omega)
  have hcn : c < n := by have := E.hl; omega
  have t0 : 0 < tau := p2_pos _
  have g8 := gp_8
  have g1 := gp_ge c
  have g2 := gp_mono (show c ≤ 8 by omega)
  have mm : ∀ {Q : Rat}, tau ≤ Q → Q * 300 ≤ (2 : Rat) ^ (300 : Int) → tau ≤ gp c * Q ∧ gp c * Q ≤ (2 : Rat) ^ (300 : Int) := fun {Q} a b => by
    have q0 : 0 ≤ Q := by grind
    have := Rat.mul_le_mul_of_nonneg_right g1 q0
    have := Rat.mul_le_mul_of_nonneg_right (show gp c ≤ 300 by grind) q0
    constructor <;> grind
  have key : ∀ r j, c < r → r < n → c < j → j ≤ n → ∃ B, ElimOk (swp c (pv c) (W c)) c r j B := fun r j h1 h2 h3 h4 => by
    obtain ⟨r1, a1, a2, a3⟩ := E.rows hc (show c ≤ r by omega) h2
    obtain ⟨r0, b1, b2, b3⟩ := E.rows hc (Nat.le_refl c) hcn
    have nz : vl (swp c (pv c) (W c) c c) ≠ 0 := by rw [swp_top]; exact E.nz c hc
    have top : (vl (swp c (pv c) (W c) r c)).abs ≤ (vl (swp c (pv c) (W c) c c)).abs := by rw [swp_top, a3]; exact E.top c hc r1 a1 a2
    have fp : Fin (swp c (pv c) (W c) c c) := by rw [b3]; exact ((bnd r0 b1 b2).1 c (Nat.le_refl _) hcn).1
    have fq : Fin (swp c (pv c) (W c) r c) := by rw [a3]; exact ((bnd r1 a1 a2).1 c (Nat.le_refl _) hcn).1
    rcases Nat.lt_or_ge j n with g | g
    · exact ⟨_, step_ok h1 h3 (by rw [a3]; exact (bnd r1 a1 a2).1 j (by omega) g) (by rw [b3]; exact (bnd r0 b1 b2).1 j (by omega) g) fp nz fq top (mm tB bB).1 (mm tB bB).2⟩
    · rw [show j = n by omega]
      exact ⟨_, step_ok h1 hcn (by rw [a3]; exact (bnd r1 a1 a2).2) (by rw [b3]; exact (bnd r0 b1 b2).2) fp nz fq top (mm tD bD).1 (mm tD bD).2⟩
  exact ⟨fun r h1 h2 => (key r n h1 h2 hcn (Nat.le_refl _)).choose_spec.quo, fun r j h1 h2 h3 h4 => (key r j h1 h2 h3 h4).choose_spec.mul, fun r j h1 h2 h3 h4 => (key r j h1 h2 h3 h4).choose_spec.sub⟩
variable (Q : Eqs n) {oo : Nat → AObj}
include Q
/-- so many rounds, as far as no pivot is nought -/
theorem main_some {l : Nat} (hl : l ≤ n) (h : ∀ c, c < l → vl (Wc n W0 c (pvc n W0 c) c) ≠ 0) {ex : Ex} {e' : Env} {H' : AH} (he : BaseRounds Tryz.prog (n + 2) 209 (oldH n oo) stLoop (stE (n + 2) n l) (stS n W0 oo l) ex e' H') :
    BaseRounds Tryz.prog (n + 2) 209 (oldH n oo) stLoop (stE (n + 2) n 0) (stS n W0 oo 0) ex e' H' := by
  have E := elim_of hB hD hn tB tD bB bD l hl h
  refine base_count (E := fun c => stE (n + 2) n c) (H := fun c => stS n W0 oo c) l 0 (fun c _ hc => ?_) (by rw [Nat.zero_add]; exact he)
  have hc' : c < l := by omega
  have hp := E.lo c hc'
  have fp := ((E.bounds hB hD hn tB tD bB bD c (by omega) (pvc n W0 c) hp.1 hp.2).1 c (Nat.le_refl _) (by omega)).1
  refine mid_step Q (by omega) _ _ _ (p := pvc n W0 c) rfl (E.steps hB hD hn tB tD bB bD hc') ?_ (fun R X => by unfold fFT; rw [finiteK_yes (vl_is fp)]; rfl)
  have z0 : Is 0 0 := is_zero
  have e := order_is (vl_is fp) z0
  have := h c hc'
  rw [e]
  by_cases g : vl (Wc n W0 c (pvc n W0 c) c) < 0
  · simp [g]
  · simp [g, this]
theorem main_full (h : ∀ c, c < n → vl (Wc n W0 c (pvc n W0 c) c) ≠ 0) : BaseRounds Tryz.prog (n + 2) 209 (oldH n oo) stLoop (stE (n + 2) n 0) (stS n W0 oo 0) (.exit 2) (stE (n + 2) n n) (stS n W0 oo n) := by
  refine main_some hB hD hn tB tD bB bD Q (Nat.le_refl _) h (base_end (by intro h; cases h) ?_)
  exact base_told (C := stR) (n := 100) (L := noL) (ts := stTs) (bo := allB (n + 2) n n) stR_ok zm_ok (fun a _ => noL_okB) (Q.fin (Ex × Env × AH) absK (fFT finiteK) oo _ _ _ _ (fun ex e H => some (ex, e, H))) all_old
theorem main_bad {l : Nat} (hl : l < n) (h : ∀ c, c < l → vl (Wc n W0 c (pvc n W0 c) c) ≠ 0) (h0 : vl (Wc n W0 l (pvc n W0 l) l) = 0) : BaseRounds Tryz.prog (n + 2) 209 (oldH n oo) stLoop (stE (n + 2) n 0) (stS n W0 oo 0) .ret [(7, .bool false), (6, ptrV (n + 3))]
    ⟨n + 2 + n + 11, (n + 3, .cells (sysL (n + 2) n (l + 1) (n + 2 + n + 8) (n + 2 + n + 10)) 0) :: oldO (n + 2) oo⟩ := by
  have E := elim_of hB hD hn tB tD bB bD l (by omega) h
  have hp := pvs_lo (Wc n W0 l) l (n - (l + 1))
  have fp := ((E.bounds hB hD hn tB tD bB bD l (Nat.le_refl _) (pvc n W0 l) hp.1 (by unfold pvc; omega)).1 l (Nat.le_refl _) (by omega)).1
  refine main_some hB hD hn tB tD bB bD Q (by omega) h (base_end (by intro h; cases h) ?_)
  refine mid_stop Q hl _ _ _ (p := pvc n W0 l) rfl ?_
  have z0 : Is 0 0 := is_zero
  have e := order_is (vl_is fp) z0
  rw [e, h0]
  have : ¬ (0 : Rat) < 0 := by grind
  simp
end
theorem first_nought (P : Nat → Prop) : ∀ n, (∀ c, c < n → P c) ∨ ∃ c, c < n ∧ ¬ P c ∧ ∀ d, d < c → P d
  | 0 => .inl fun c hc => absurd hc (Nat.not_lt_zero c)
  | n + 1 => by
    rcases first_nought P n with h | ⟨c, h1, h2, h3⟩
    · by_cases g : P n
      · left
        intro c hc
        rcases Nat.lt_or_ge c n with q | q
        · exact h c q
        · rw [show c = n by omega]; exact g
      · exact .inr ⟨n, by omega, g, h⟩
    · exact .inr ⟨c, by omega, h2, h3⟩
end Go.Vm
namespace Go.Vm
open Go.Proofs
set_option linter.unusedVariables false
set_option maxRecDepth 1000000
def EqRs (n : Nat) : Prop := ∀ (W : Nat → Nat → Nat) (oo : Nat → AObj), resE Tryz.prog [(7, .bool true), (6, ptrV (n + 3))] ⟨n + 2 + 7 + n, endO (n + 2) n W oo⟩ Tryz.f252.results.toList = some [.agg ⟨sysL (n + 2) n n (n + 2 + 5) (n + 2 + 6)⟩, .bool true]
def EqRb (n : Nat) : Prop := ∀ (N l x y : Nat) (O : Objs), resE Tryz.prog [(7, .bool false), (6, ptrV (n + 3))] ⟨N, (n + 3, .cells (sysL (n + 2) n (l + 1) x y) 0) :: O⟩ Tryz.f252.results.toList = some [.agg ⟨sysL (n + 2) n (l + 1) x y⟩, .bool false]
structure Eqr (n : Nat) : Prop where
  rs : EqRs n
  rb : EqRb n
theorem eqr_3 : Eqr 3 := ⟨by intro W oo; kernel_rfl, by intro N l x y O; kernel_rfl⟩
theorem eqr_4 : Eqr 4 := ⟨by intro W oo; kernel_rfl, by intro N l x y O; kernel_rfl⟩
theorem eqr_5 : Eqr 5 := ⟨by intro W oo; kernel_rfl, by intro N l x y O; kernel_rfl⟩
theorem eqr_6 : Eqr 6 := ⟨by intro W oo; kernel_rfl, by intro N l x y O; kernel_rfl⟩
theorem eqr_7 : Eqr 7 := ⟨by intro W oo; kernel_rfl, by intro N l x y O; kernel_rfl⟩
theorem eqr_8 : Eqr 8 := ⟨by intro W oo; kernel_rfl, by intro N l x y O; kernel_rfl⟩
end Go.Vm
namespace Go.Vm
open Go.Proofs
set_option linter.unusedVariables false
set_option linter.unusedSectionVars false
set_option linter.unusedSimpArgs false

/-! ### steps: the contract -/
theorem b252 : Tryz.f252.body = some (codeOf 252) := by kernel_rfl
/-- a call in a small memory: what it answers, and what it leaves -/
def SmallCall (P : Program) (f : FuncId) (args : List Value) (H : AH) (v : Value) (H' : AH) : Prop :=
  ∀ ρ w args', Inv ρ H w → VRels ρ args args' → Calls P f ⟨args'⟩ w fun e w' => ∃ ρ' v', e = .returned v' ∧ VRel ρ' v v' ∧ Next H.next ρ H w ρ' H' w'
section
variable {n : Nat} {A : Nat → Nat → Nat} {bv : Nat → Nat} {B0 D0 : Rat} (hB : ∀ r j, r < n → j < n → Le B0 (W0f n A bv r j)) (hD : ∀ r, r < n → Le D0 (W0f n A bv r n)) (hn : n ≤ 8) (tB : tau ≤ B0) (tD : tau ≤ D0) (bB : B0 * 300 ≤ (2 : Rat) ^ (300 : Int)) (bD : D0 * 300 ≤ (2 : Rat) ^ (300 : Int))
  (Q : Eqs n) (T : Eqp n) (U : Eqr n) {ca cb sA sr sb : Nat}
include T in
theorem front_pre {ex : Ex} {e' : Env} {H' : AH} (h : BaseRounds Tryz.prog (n + 2) 209 (inO n A bv sA sr sb) stLoop (stE (n + 2) n 0) (stS n (W0f n A bv) (ooS n A bv sA sr sb) 0) ex e' H') :
    BaseOk Tryz.prog (n + 2) 209 (inO n A bv sA sr sb) (stE (n + 2) n 0) (preH (n + 2) n (W0f n A bv) (ooS n A bv sA sr sb)) ex e' H' (fun Q a w => Code.wp Tryz.prog (.loop stLoop) Q a w) := by
  have hr := T.pr (ooS n A bv sA sr sb) (W0f n A bv)
  have h1 := base_loopB h
  have e : stS n (W0f n A bv) (ooS n A bv sA sr sb) 0 = ⟨(inO n A bv sA sr sb).next + (preRen (n + 2) n).length, stO (n + 2) n 0 (n + 2 + 5) (n + 2 + 6) (fun i => i) nils (fun i => i) (W0f n A bv) (fun _ => 0) (fun _ => false) ++ oldO (n + 2) (ooS n A bv sA sr sb)⟩ := by
    unfold stS stH inO preRen fic psc osc Wc
    rw [List.length_append, up_length]
    simp only [List.length_cons, List.length_nil]
    rw [show n + 2 + 7 + n = n + 2 + (0 + 1 + 1 + 1 + 1 + 1 + 1 + 1 + n) by omega]
  rw [e] at h1
  refine BaseOk.front (ts := stTs) (bo := preOwn (n + 2) n) (bs := preRen (n + 2) n) (D := []) (B := oldO (n + 2) (ooS n A bv sA sr sb)) h1 hr.1 hr.2 ?_ rfl (ltB_up (by omega)) (geB_stO (by omega) (by omega)) rfl
  refine List.all_eq_true.2 fun j hj => ?_
  rw [Nat.ble_eq]
  show n + 2 ≤ j
  unfold preRen at hj
  rcases List.mem_append.1 hj with hj | hj
  · simp only [List.mem_cons, List.not_mem_nil, or_false] at hj
    omega
  · obtain ⟨k, g1, g2, rfl⟩ := mem_upTo.1 hj
    omega
theorem pre_old {lo : Nat} : oldIn lo (preBo (n + 2) n) (inO n A bv sA sr sb).objs = true := oldIn_up fun k _ h => List.mem_append_right _ (mem_upTo.2 ⟨k, by omega, by omega, rfl⟩)
theorem end_old {lo : Nat} : oldIn lo (endBo (n + 2) n) (inO n A bv sA sr sb).objs = true := oldIn_up fun k _ h => List.mem_append_right _ (mem_upTo.2 ⟨k, by omega, by omega, rfl⟩)
theorem pre_loops {ex : Ex} {e' : Env} {H' : AH} : ∀ a ∈ loopsIn (codeOf 252), LOkB Tryz.prog (inO n A bv sA sr sb) (orL 58 (tellS stTs (preBo (n + 2) n) ex e' H' (tellR Tryz.prog (inO n A bv sA sr sb))) (rollL stR 100)) a :=
  fun a _ => orL_okB (tellS_okB fun lo => pre_old) (rollL_ok stR_ok zm_ok 100 a).baseB
include hB hD hn tB tD bB bD Q T U
/-- all stages -/
theorem steps_full (h : ∀ c, c < n → vl (Wc n (W0f n A bv) c (pvc n (W0f n A bv) c) c) ≠ 0) :
    SmallCall Tryz.prog 252 (stArgs n ca cb) (inO n A bv sA sr sb) (.tuple ⟨[.agg ⟨sysL (n + 2) n n (n + 2 + 5) (n + 2 + 6)⟩, .bool true]⟩) ⟨n + 2 + 7 + n, endO (n + 2) n (Wc n (W0f n A bv) n) (ooS n A bv sA sr sb)⟩ := by
  have hm := front_pre T (main_full hB hD hn tB tD bB bD Q (oo := ooS n A bv sA sr sb) h)
  have e := T.pf (Ex × Env × AH) absK (fFT finiteK) A bv ca cb sA sr sb (tellR Tryz.prog (inO n A bv sA sr sb)) (fic n (W0f n A bv) n) (Wc n (W0f n A bv) n) (psc n (W0f n A bv) n) (osc n (W0f n A bv) n) (fun ex e H => some (ex, e, H))
  have e2 := e.trans (tell_eqB hm)
  have b := base_told (C := stR) (H0 := inO n A bv sA sr sb) stR_ok zm_ok pre_loops e2 end_old
  exact calls_next (H := inO n A bv sA sr sb) Tryz.func252 b252 (Nat.le_of_ble_eq_true rfl) (BaseOk.code b) (.inr rfl) (U.rs _ _)
/-- a stage without a pivot -/
theorem steps_bad {l : Nat} (hl : l < n) (h : ∀ c, c < l → vl (Wc n (W0f n A bv) c (pvc n (W0f n A bv) c) c) ≠ 0) (h0 : vl (Wc n (W0f n A bv) l (pvc n (W0f n A bv) l) l) = 0) :
    SmallCall Tryz.prog 252 (stArgs n ca cb) (inO n A bv sA sr sb) (.tuple ⟨[.agg ⟨sysL (n + 2) n (l + 1) (n + 2 + n + 8) (n + 2 + n + 10)⟩, .bool false]⟩)
      ⟨n + 2 + n + 11, (n + 3, .cells (sysL (n + 2) n (l + 1) (n + 2 + n + 8) (n + 2 + n + 10)) 0) :: oldO (n + 2) (ooS n A bv sA sr sb)⟩ := by
  have hm := front_pre T (main_bad hB hD hn tB tD bB bD Q (oo := ooS n A bv sA sr sb) hl h h0)
  have e := T.pb (Ex × Env × AH) absK (fFT finiteK) A bv ca cb sA sr sb (tellR Tryz.prog (inO n A bv sA sr sb)) ⟨n + 2 + n + 11, (n + 3, .cells (sysL (n + 2) n (l + 1) (n + 2 + n + 8) (n + 2 + n + 10)) 0) :: oldO (n + 2) (ooS n A bv sA sr sb)⟩ (fun ex e H => some (ex, e, H))
  have e2 := e.trans (tell_eqB hm)
  obtain ⟨ex1, e', H', g1, g2⟩ := evTop_base (C := stR) (H0 := inO n A bv sA sr sb) stR_ok zm_ok (codeOf 252) pre_loops _ _ _ _ e2
  cases g1
  exact calls_next (H := inO n A bv sA sr sb) Tryz.func252 b252 (Nat.le_of_ble_eq_true rfl) (BaseOk.code g2) (.inr rfl) (U.rb _ _ _ _ _)
end
end Go.Vm
namespace Go.Vm
open Go.Proofs
set_option linter.unusedVariables false
set_option linter.unusedSimpArgs false
set_option maxRecDepth 1000000

/-! ### solved: the way back -/
abbrev KSt := ∀ R : Type, List Value → AH → (Nat → Option R) → ((Nat → Nat → Nat) → Option R) → Option R
def stV (N n l : Nat) (t : Bool) : Value := .tuple ⟨[.agg ⟨[sliceV N n n, sliceV (N + 1) n n, sliceV (N + 2) l l, sliceV (N + 3) l l]⟩, .bool t]⟩
def stA (N n : Nat) (W : Nat → Nat → Nat) : Objs := (N, .cells (upTo (fun i => sliceV (N + 4 + i) (n + 1) (n + 1)) 0 n) 1) :: upTo (fun i => (N + 4 + i, rowV W n i)) 0 n
/-- steps: no pivot at a stage, or all stages -/
def sSt (n : Nat) (g : KSt) : MSum := fun R args H k => g R args H (fun l => k (stV H.next n (l + 1) false) ⟨H.next + 4, H.objs⟩) (fun W => k (stV H.next n n true) ⟨H.next + 4 + n, stA H.next n W ++ H.objs⟩)
noncomputable def svC (n : Nat) (fi : Fi) (g0 g1 : HT) (gs : KSt) : Cx := uC fi [] [(250, saysV (.int .i64 0) g0), (251, saysV (.int .i64 0) g1)] [(252, sSt n gs)]
def valF (o : Option Nat) : Value := match o with
  | some w => fl w
  | none => .float .f32 0
end Go.Vm
namespace Go.Vm
open Go.Proofs
set_option linter.unusedVariables false
set_option linter.unusedSimpArgs false
set_option maxRecDepth 1000000
noncomputable def biLoop : Code := loopNo (codeOf 214) 0
noncomputable def bjLoop : Code := loopNo biLoop 0
noncomputable def bfLoop : Code := loopNo (codeOf 214) 1
/-- where what is no number may come -/
noncomputable def bkC : Cx := { uC fiReal [] [] [] with nn := true, nan1 := nanT }
def bkH (b n : Nat) (W : Nat → Nat → Nat) (xv : Nat → Value) (oo : Nat → AObj) : AH :=
  ⟨b + 7 + n, [(b + 6 + n, .cells (upTo xv 0 n) 0), (b + 5 + n, .cells [sliceV (b + 1) n n, sliceV (b + 2) n n, sliceV (b + 3) n n, sliceV (b + 4) n n] 0), (b + 1, .cells (upTo (fun i => sliceV (b + 5 + i) (n + 1) (n + 1)) 0 n) 1)] ++
    upTo (fun i => (b + 5 + i, rowV W n i)) 0 n ++ (b, .cells fieldL 0) :: oldO b oo⟩
def bkBo (b n : Nat) : List Nat := [b + 6 + n, b + 5 + n, b + 1] ++ upTo (fun i => b + 5 + i) 0 n ++ b :: upTo (fun i => i) 0 b
def bkE (b n : Nat) : Env := [(13, sliceV (b + 6 + n) n n), (12, intV n), (10, ptrV (b + 5 + n)), (3, ptrV b)]
def bkTs : List Nat := [13, 12, 10, 3]
def bjE (b n i j : Nat) (tv : Value) : Env := [(16, intV j), (15, tv), (14, intV i)] ++ bkE b n
def bjTs : List Nat := [16, 15, 14] ++ bkTs
def biI : Nat → Int
  | 0 => .negSucc 0
  | m + 1 => .ofNat m
def biE (b n m : Nat) : Env := [(14, .int .i64 (biI m))] ++ bkE b n
def biTs : List Nat := [14] ++ bkTs
def bfE (b n k : Nat) : Env := [(100, intV k), (99, intV n), (98, sliceV (b + 6 + n) n n)] ++ bkE b n
def bfTs : List Nat := [100, 99, 98] ++ bkTs
def badE : Env := [(7, .int .i64 141), (6, nilS)]
/-- what comes of two numbers, if it is a number -/
def arE {R : Type} (op : BinOp) (a b : Nat) (k : Option Nat → Option R) : Option R := match fbF op a b with
  | some n => forceN n fun n => k (some n)
  | none => k none
def lessO {R : Type} (t : Option Nat) (a : Nat) (x : Option Nat) (k : Option Nat → Option R) : Option R := match t, x with
  | some t, some x => arE .mul a x fun m => match m with
    | some m => arE .sub t m k
    | none => k none
  | some t, none => k none
  | none, some x => arE .mul a x fun m => k none
  | none, none => k none
def overO {R : Type} (t : Option Nat) (p : Nat) (k : Option Nat → Option R) : Option R := match t with
  | some t => arE .quo t p k
  | none => k none
def EqBj (n i j : Nat) : Prop := ∀ (R : Type) (oo : Nat → AObj) (W : Nat → Nat → Nat) (xv : Nat → Value) (tx xx : Option Nat) (K : Ex → Env → AH → Option R),
  evTop bkC 100 noL (n + 2) 111 bjLoop (bjE (n + 2) n i j (valF tx)) (bkH (n + 2) n W (upd1 xv j (valF xx)) oo) (takeN bjTs (bkBo (n + 2) n) K) =
    lessO tx (W i j) xx fun r => K .normal (bjE (n + 2) n i (j + 1) (valF r)) (bkH (n + 2) n W (upd1 xv j (valF xx)) oo)
def EqBx (n i : Nat) : Prop := ∀ (R : Type) (oo : Nat → AObj) (W : Nat → Nat → Nat) (xv : Nat → Value) (tv : Value) (K : Ex → Env → AH → Option R),
  evTop bkC 100 noL (n + 2) 111 bjLoop (bjE (n + 2) n i n tv) (bkH (n + 2) n W xv oo) (takeN bjTs (bkBo (n + 2) n) K) = K (.exit 2) (bjE (n + 2) n i n tv) (bkH (n + 2) n W xv oo)
def EqBi (n i : Nat) : Prop := ∀ (R : Type) (oo : Nat → AObj) (W : Nat → Nat → Nat) (xv : Nat → Value) (t : Option Nat) (g : LT) (K : Ex → Env → AH → Option R),
  evTop bkC 100 (tellS bjTs (bkBo (n + 2) n) (.exit 2) (bjE (n + 2) n i n (valF t)) (bkH (n + 2) n W xv oo) g) (n + 2) 111 biLoop (biE (n + 2) n (i + 1)) (bkH (n + 2) n W xv oo) (takeN biTs (bkBo (n + 2) n) K) =
    (g R (n + 2) 111 bjLoop (bjE (n + 2) n i (i + 1) (fl (W i n))) (bkH (n + 2) n W xv oo) (.exit 2) (bjE (n + 2) n i n (valF t)) (bkH (n + 2) n W xv oo) <|
      overO t (W i i) fun r => K .normal (biE (n + 2) n i) (bkH (n + 2) n W (upd1 xv i (valF r)) oo))
def EqBe (n : Nat) : Prop := ∀ (R : Type) (oo : Nat → AObj) (W : Nat → Nat → Nat) (xv : Nat → Value) (K : Ex → Env → AH → Option R),
  evTop bkC 100 noL (n + 2) 111 biLoop (biE (n + 2) n 0) (bkH (n + 2) n W xv oo) (takeN biTs (bkBo (n + 2) n) K) = K (.exit 0) (biE (n + 2) n 0) (bkH (n + 2) n W xv oo)
def sFB0 (g : KF1) : Sum := fun R args k => match args with
  | [.float .f64 a] => g R a (k (.bool false))
  | _ => none
noncomputable def bfC (fn : KF1) : Cx := uC fiReal [(141, sFB1 fn)] [] []
noncomputable def bgC (fn : KF1) : Cx := uC fiReal [(141, sFB0 fn)] [] []
def EqF (n k : Nat) : Prop := ∀ (R : Type) (fn : KF1) (oo : Nat → AObj) (W : Nat → Nat → Nat) (xv : Nat → Value) (w : Nat) (K : Ex → Env → AH → Option R),
  evTop (bfC fn) 100 noL (n + 2) 111 bfLoop (bfE (n + 2) n k) (bkH (n + 2) n W (upd1 xv k (fl w)) oo) (takeN bfTs (bkBo (n + 2) n) K) = fn R w (K .normal (bfE (n + 2) n (k + 1)) (bkH (n + 2) n W (upd1 xv k (fl w)) oo))
def EqG (n k : Nat) : Prop := ∀ (R : Type) (fn : KF1) (oo : Nat → AObj) (W : Nat → Nat → Nat) (xv : Nat → Value) (w : Nat) (K : Ex → Env → AH → Option R),
  evTop (bgC fn) 100 noL (n + 2) 111 bfLoop (bfE (n + 2) n k) (bkH (n + 2) n W (upd1 xv k (fl w)) oo) (takeN [7, 6] (bkBo (n + 2) n) K) = fn R w (K .ret badE (bkH (n + 2) n W (upd1 xv k (fl w)) oo))
def EqN (n k : Nat) : Prop := ∀ (R : Type) (oo : Nat → AObj) (W : Nat → Nat → Nat) (xv : Nat → Value) (K : Ex → Env → AH → Option R),
  evTop bkC 100 noL (n + 2) 111 bfLoop (bfE (n + 2) n k) (bkH (n + 2) n W (upd1 xv k (valF none)) oo) (takeN [7, 6] (bkBo (n + 2) n) K) = K .ret badE (bkH (n + 2) n W (upd1 xv k (valF none)) oo)
def EqFx (n : Nat) : Prop := ∀ (R : Type) (fn : KF1) (oo : Nat → AObj) (W : Nat → Nat → Nat) (xv : Nat → Value) (K : Ex → Env → AH → Option R),
  evTop (bfC fn) 100 noL (n + 2) 111 bfLoop (bfE (n + 2) n n) (bkH (n + 2) n W xv oo) (takeN bfTs (bkBo (n + 2) n) K) = K (.exit 4) (bfE (n + 2) n n) (bkH (n + 2) n W xv oo)
structure Eqw (n : Nat) : Prop where
  bj : ∀ i, i < n → ∀ k, k < n - (i + 1) → EqBj n i (i + 1 + k)
  bx : ∀ i, i < n → EqBx n i
  bi : ∀ i, i < n → EqBi n i
  be : EqBe n
  f : ∀ k, k < n → EqF n k
  g : ∀ k, k < n → EqG n k
  nn : ∀ k, k < n → EqN n k
  fx : EqFx n
end Go.Vm
namespace Go.Vm
open Go.Proofs
set_option linter.unusedVariables false
set_option linter.unusedSectionVars false
set_option linter.unusedSimpArgs false

/-! ### The way back, for any number of unknowns whose equations hold -/
def lessV (t : Option Nat) (a : Nat) (x : Option Nat) : Option Nat := match t, x with
  | some t, some x => (fbF .mul a x).bind fun m => fbF .sub t m
  | _, _ => none
def overV (t : Option Nat) (p : Nat) : Option Nat := t.bind fun t => fbF .quo t p
theorem arE_eq {R : Type} (op : BinOp) (a b : Nat) (k : Option Nat → Option R) : arE op a b k = k (fbF op a b) := by
  unfold arE
  cases fbF op a b with
  | none => rfl
  | some n => simp only [forceN_eq]
theorem lessO_eq {R : Type} (t : Option Nat) (a : Nat) (x : Option Nat) (k : Option Nat → Option R) : lessO t a x k = k (lessV t a x) := by
  unfold lessO lessV
  cases t <;> cases x <;> simp only [arE_eq]
  rename_i t x
  cases fbF .mul a x with
  | none => rfl
  | some m => simp only [arE_eq]; rfl
theorem overO_eq {R : Type} (t : Option Nat) (p : Nat) (k : Option Nat → Option R) : overO t p k = k (overV t p) := by
  unfold overO overV
  cases t with
  | none => rfl
  | some t => simp only [arE_eq]; rfl
/-- a row's rest, behind m of its numbers -/
def accO (n : Nat) (W : Nat → Nat → Nat) (xs : Nat → Option Nat) (i : Nat) : Nat → Option Nat
  | 0 => some (W i n)
  | m + 1 => lessV (accO n W xs i m) (W i (i + 1 + m)) (xs (i + 1 + m))
/-- what is found, behind so many rows from the last on -/
def bX (n : Nat) (W : Nat → Nat → Nat) : Nat → Nat → Option Nat
  | 0 => fun _ => some 0
  | j + 1 => upd1 (bX n W j) (n - (j + 1)) (overV (accO n W (bX n W j) (n - (j + 1)) (n - (n - (j + 1) + 1))) (W (n - (j + 1)) (n - (j + 1))))
def valX (xs : Nat → Option Nat) (k : Nat) : Value := valF (xs k)
theorem valX_self (xs : Nat → Option Nat) (j : Nat) : upd1 (valX xs) j (valF (xs j)) = valX xs := by
  funext k
  unfold upd1 valX
  by_cases h : k = j
  · subst h; simp
  · rw [beq_ne h]; rfl
theorem valX_upd (xs : Nat → Option Nat) (j : Nat) (r : Option Nat) : upd1 (valX xs) j (valF r) = valX (upd1 xs j r) := by
  funext k
  simp only [upd1, valX]
  cases Nat.beq k j <;> rfl
theorem uC0_ok : (uC fiReal [] [] []).Ok := uC_ok .nil .nil .nil
set_option maxRecDepth 100000 in
theorem bkC_ok : bkC.Ok :=
  let h := uC0_ok
  { fair := h.fair, sums := h.sums, exts := h.exts, meths := h.meths, hs := h.hs, gs := h.gs, ms := h.ms, mg := h.mg, mm := h.mm
    nan1 := fun f hf => by
      have : f = 53 := Nat.eq_of_beq_eq_true hf
      subst this
      exact ⟨h53, nan53⟩ }
theorem bj_loops : loopsIn bjLoop = [] := by kernel_rfl
section
variable {n : Nat} {oo : Nat → AObj}
theorem bk_old {lo : Nat} : oldIn lo (bkBo (n + 2) n) (oldH n oo).objs = true := oldIn_up fun k _ h => List.mem_append_right _ (List.mem_cons_of_mem _ (mem_upTo.2 ⟨k, by omega, by omega, rfl⟩))
variable (Q : Eqw n)
include Q
theorem bj_step {i m : Nat} (hi : i < n) (hm : m < n - (i + 1)) (W : Nat → Nat → Nat) (xs : Nat → Option Nat) :
    BaseOk Tryz.prog (n + 2) 111 (oldH n oo) (bjE (n + 2) n i (i + 1 + m) (valF (accO n W xs i m))) (bkH (n + 2) n W (valX xs) oo) .normal (bjE (n + 2) n i (i + 1 + (m + 1)) (valF (accO n W xs i (m + 1)))) (bkH (n + 2) n W (valX xs) oo) (fun Q a w => bjLoop.wp Tryz.prog Q a w) := by
  have h := Q.bj i hi m hm (Ex × Env × AH) oo W (valX xs) (accO n W xs i m) (xs (i + 1 + m)) (fun ex e H => some (ex, e, H))
  rw [valX_self, lessO_eq] at h
  exact base_told (C := bkC) (n := 100) (L := noL) (ts := bjTs) (bo := bkBo (n + 2) n) bkC_ok zm_ok (by rw [bj_loops]; intro a ha; simp at ha) h bk_old
theorem bj_all {i : Nat} (hi : i < n) (W : Nat → Nat → Nat) (xs : Nat → Option Nat) :
    BaseOk Tryz.prog (n + 2) 111 (oldH n oo) (bjE (n + 2) n i (i + 1) (fl (W i n))) (bkH (n + 2) n W (valX xs) oo) (.exit 2) (bjE (n + 2) n i n (valF (accO n W xs i (n - (i + 1))))) (bkH (n + 2) n W (valX xs) oo) (fun Q a w => Code.wp Tryz.prog (.loop bjLoop) Q a w) := by
  refine base_loopB (base_count (E := fun m => bjE (n + 2) n i (i + 1 + m) (valF (accO n W xs i m))) (H := fun _ => bkH (n + 2) n W (valX xs) oo) (n - (i + 1)) 0 (fun m _ hm => bj_step Q hi (by omega) W xs) (base_end (by intro h; cases h) ?_))
  rw [Nat.zero_add, show i + 1 + (n - (i + 1)) = n by omega]
  exact base_told (C := bkC) (n := 100) (L := noL) (ts := bjTs) (bo := bkBo (n + 2) n) bkC_ok zm_ok (by rw [bj_loops]; intro a ha; simp at ha) (Q.bx i hi (Ex × Env × AH) oo W (valX xs) _ (fun ex e H => some (ex, e, H))) bk_old
theorem bi_step {j : Nat} (hj : j < n) (W : Nat → Nat → Nat) :
    BaseOk Tryz.prog (n + 2) 111 (oldH n oo) (biE (n + 2) n (n - j)) (bkH (n + 2) n W (valX (bX n W j)) oo) .normal (biE (n + 2) n (n - (j + 1))) (bkH (n + 2) n W (valX (bX n W (j + 1))) oo) (fun Q a w => biLoop.wp Tryz.prog Q a w) := by
  have h := Q.bi (n - (j + 1)) (by omega) (Ex × Env × AH) oo W (valX (bX n W j)) (accO n W (bX n W j) (n - (j + 1)) (n - (n - (j + 1) + 1))) (tellR Tryz.prog (oldH n oo)) (fun ex e H => some (ex, e, H))
  rw [tell_eqB (bj_all Q (by omega) W (bX n W j)), overO_eq, valX_upd, show n - (j + 1) + 1 = n - j by omega] at h
  rw [show bX n W (j + 1) = upd1 (bX n W j) (n - (j + 1)) (overV (accO n W (bX n W j) (n - (j + 1)) (n - (n - j))) (W (n - (j + 1)) (n - (j + 1)))) by
    conv => lhs; unfold bX
    rw [show n - (j + 1) + 1 = n - j by omega]]
  exact base_told (C := bkC) (n := 100) (ts := biTs) (bo := bkBo (n + 2) n) bkC_ok zm_ok (fun a _ => tellS_okB fun lo => bk_old) h bk_old
theorem bi_all (W : Nat → Nat → Nat) :
    BaseOk Tryz.prog (n + 2) 111 (oldH n oo) (biE (n + 2) n n) (bkH (n + 2) n W (valX fun _ => some 0) oo) (.exit 0) (biE (n + 2) n 0) (bkH (n + 2) n W (valX (bX n W n)) oo) (fun Q a w => Code.wp Tryz.prog (.loop biLoop) Q a w) := by
  refine base_loopB (base_count (E := fun j => biE (n + 2) n (n - j)) (H := fun j => bkH (n + 2) n W (valX (bX n W j)) oo) n 0 (fun j _ hj => bi_step Q (by omega) W) (base_end (by intro h; cases h) ?_))
  rw [Nat.zero_add, Nat.sub_self]
  exact base_told (C := bkC) (n := 100) (L := noL) (ts := biTs) (bo := bkBo (n + 2) n) bkC_ok zm_ok (fun a _ => noL_okB) (Q.be (Ex × Env × AH) oo W (valX (bX n W n)) (fun ex e H => some (ex, e, H))) bk_old
end
end Go.Vm
namespace Go.Vm
open Go.Proofs
set_option linter.unusedVariables false
set_option linter.unusedSimpArgs false
set_option maxRecDepth 1000000
/-! ### solved: the whole -/
def kH (n : Nat) (oo : Nat → AObj) : AH := ⟨n + 3, (n + 2, .cells fieldL 0) :: oldO (n + 2) oo⟩
def topBo (n : Nat) : List Nat := (n + 2 + 6 + n) :: upTo (fun i => i) 0 (n + 2)
def EqTg (n : Nat) : Prop := ∀ (R : Type) (g0 g1 : HT) (gs : KSt) (gb gf : LT) (A : Nat → Nat → Nat) (bv : Nat → Nat) (ca cb sA sr sb : Nat) (W1 : Nat → Nat → Nat) (xv : Nat → Value) (K : Ex → Env → AH → Option R),
  evTop (svC n fiReal g0 g1 gs) 100 (orL 98 (tellS bfTs (bkBo (n + 2) n) (.exit 4) (bfE (n + 2) n n) (bkH (n + 2) n W1 xv (ooS n A bv sA sr sb)) gf)
      (tellS biTs (bkBo (n + 2) n) (.exit 0) (biE (n + 2) n 0) (bkH (n + 2) n W1 xv (ooS n A bv sA sr sb)) gb)) (n + 2) 111 (codeOf 214) (enumE 0 (stArgs n ca cb)) (inO n A bv sA sr sb) (takeN [7, 6] (topBo n) K) =
    (g0 R [fieldV, sliceV 0 n ca] (kH n (ooS n A bv sA sr sb)) <| g1 R [fieldV, sliceV (n + 1) n cb, intV n] (kH n (ooS n A bv sA sr sb)) <| gs R (stArgs n ca cb) (kH n (ooS n A bv sA sr sb))
      (fun l => K .ret badE ⟨n + 8, oldO (n + 2) (ooS n A bv sA sr sb)⟩)
      fun W => gb R (n + 2) 111 biLoop (biE (n + 2) n n) (bkH (n + 2) n W (fun _ => fl 0) (ooS n A bv sA sr sb)) (.exit 0) (biE (n + 2) n 0) (bkH (n + 2) n W1 xv (ooS n A bv sA sr sb)) <|
        gf R (n + 2) 111 bfLoop (bfE (n + 2) n 0) (bkH (n + 2) n W1 xv (ooS n A bv sA sr sb)) (.exit 4) (bfE (n + 2) n n) (bkH (n + 2) n W1 xv (ooS n A bv sA sr sb)) <|
        K .ret [(7, .int .i64 0), (6, sliceV (n + 2 + 6 + n) n n)] ⟨n + 2 + 7 + n, (n + 2 + 6 + n, .cells (upTo xv 0 n) 0) :: oldO (n + 2) (ooS n A bv sA sr sb)⟩)
def EqTb (n : Nat) : Prop := ∀ (R : Type) (g0 g1 : HT) (gs : KSt) (gb gf : LT) (A : Nat → Nat → Nat) (bv : Nat → Nat) (ca cb sA sr sb : Nat) (W1 : Nat → Nat → Nat) (xv : Nat → Value) (K : Ex → Env → AH → Option R),
  evTop (svC n fiReal g0 g1 gs) 100 (orL 98 (tellS bfTs (bkBo (n + 2) n) .ret badE (bkH (n + 2) n W1 xv (ooS n A bv sA sr sb)) gf)
      (tellS biTs (bkBo (n + 2) n) (.exit 0) (biE (n + 2) n 0) (bkH (n + 2) n W1 xv (ooS n A bv sA sr sb)) gb)) (n + 2) 111 (codeOf 214) (enumE 0 (stArgs n ca cb)) (inO n A bv sA sr sb) (takeN [7, 6] (upTo (fun i => i) 0 (n + 2)) K) =
    (g0 R [fieldV, sliceV 0 n ca] (kH n (ooS n A bv sA sr sb)) <| g1 R [fieldV, sliceV (n + 1) n cb, intV n] (kH n (ooS n A bv sA sr sb)) <| gs R (stArgs n ca cb) (kH n (ooS n A bv sA sr sb))
      (fun l => K .ret badE ⟨n + 8, oldO (n + 2) (ooS n A bv sA sr sb)⟩)
      fun W => gb R (n + 2) 111 biLoop (biE (n + 2) n n) (bkH (n + 2) n W (fun _ => fl 0) (ooS n A bv sA sr sb)) (.exit 0) (biE (n + 2) n 0) (bkH (n + 2) n W1 xv (ooS n A bv sA sr sb)) <|
        gf R (n + 2) 111 bfLoop (bfE (n + 2) n 0) (bkH (n + 2) n W1 xv (ooS n A bv sA sr sb)) .ret badE (bkH (n + 2) n W1 xv (ooS n A bv sA sr sb)) <|
        K .ret badE ⟨n + 2 + 7 + n, oldO (n + 2) (ooS n A bv sA sr sb)⟩)
structure Eqt (n : Nat) : Prop where
  tg : EqTg n
  tb : EqTb n
end Go.Vm
namespace Go.Vm
open Go.Proofs
set_option linter.unusedVariables false
set_option linter.unusedSimpArgs false
set_option maxRecDepth 1000000
/-! ### check and beside -/
def fnAll {R : Type} (fn : KF1) (f : Nat → Nat) : Nat → Nat → Option R → Option R
  | _, 0, k => k
  | i, m + 1, k => fn R (f i) (fnAll fn f (i + 1) m k)
def Eq251 (n : Nat) : Prop := ∀ (R : Type) (fn : KF1) (bv : Nat → Nat) (c s : Nat) (K : Ex → Env → Objs → Option R),
  evTop (bfC fn) 100 (rollL (bfC fn) 100) 1 25 (codeOf 251) (enumE 0 [fieldV, sliceV 0 n c, intV n]) ⟨1, [(0, .cells (upTo (fun r => fl (bv r)) 0 n) s)]⟩ (takeC [6] [] K) = fnAll fn bv 0 n (K .ret [(6, .int .i64 0)] [])
def gAll {R : Type} (g : HT) (n : Nat) (H : AH) : Nat → Nat → Option R → Option R
  | _, 0, k => k
  | i, m + 1, k => g R [fieldV, sliceV (1 + i) n n, intV n] H (gAll g n H (i + 1) m k)
noncomputable def chC (g : HT) : Cx := uC fiReal [] [(251, saysV (.int .i64 0) g)] []
def Eq250 (n : Nat) : Prop := ∀ (R : Type) (g : HT) (oo : Nat → AObj) (sA ca : Nat) (K : Ex → Env → Objs → Option R),
  evTop (chC g) 100 (rollL (chC g) 100) (n + 3) 45 (codeOf 250) (enumE 0 [fieldV, sliceV 0 n ca]) ⟨n + 3, (0, .cells (upTo (fun i => sliceV (1 + i) n n) 0 n) sA) :: upTo (fun i => (1 + i, oo i)) 0 n⟩ (takeC [4] [] K) =
    gAll g n ⟨n + 4, (n + 3, .cells fieldL 0) :: (0, .cells (upTo (fun i => sliceV (1 + i) n n) 0 n) sA) :: upTo (fun i => (1 + i, oo i)) 0 n⟩ 0 n (K .ret [(4, .int .i64 0)] [])
structure Eqc (n : Nat) : Prop where
  c0 : Eq250 n
  c1 : Eq251 n
end Go.Vm
namespace Go.Vm
open Go.Proofs
set_option linter.unusedVariables false
set_option linter.unusedSectionVars false
set_option linter.unusedSimpArgs false

/-! ### check and beside: the contracts -/
/-- a word the machine calls finite -/
def gd (w : Nat) : Bool := leF (absW w) 9218868437227405311
theorem gd_yes {R : Type} {w : Nat} (h : gd w = true) (X : Option R) : fFT finiteK R w X = X := by
  unfold fFT finiteK finiteB absK
  unfold gd at h
  show forceB (leF (absW w) 9218868437227405311) (fun t => yesB X t) = X
  rw [forceB_eq, h]
  rfl
theorem fnAll_eq {R : Type} {f : Nat → Nat} : ∀ (m i : Nat) (k : Option R), (∀ j, i ≤ j → j < i + m → gd (f j) = true) → fnAll (fFT finiteK) f i m k = k
  | 0, i, k, h => rfl
  | m + 1, i, k, h => by
    unfold fnAll
    rw [gd_yes (h i (Nat.le_refl _) (by omega)), fnAll_eq m (i + 1) k fun j h1 h2 => h j (by omega) (by omega)]
theorem bfC_ok : (bfC (fFT finiteK)).Ok := uC_ok (.cons k141t h141 .nil) .nil .nil
theorem h250 : Has Tryz.prog 250 := ⟨Tryz.f250, _, Tryz.func250, by kernel_rfl, rfl⟩
theorem h251 : Has Tryz.prog 251 := ⟨Tryz.f251, _, Tryz.func251, by kernel_rfl, rfl⟩
theorem h252 : Has Tryz.prog 252 := ⟨Tryz.f252, _, Tryz.func252, by kernel_rfl, rfl⟩
theorem b250 : Tryz.f250.body = some (codeOf 250) := by kernel_rfl
theorem b251 : Tryz.f251.body = some (codeOf 251) := by kernel_rfl
section
variable {n : Nat} (Q : Eqc n)
include Q
theorem beside_call {bv : Nat → Nat} {c s : Nat} (hf : ∀ i, i < n → gd (bv i) = true) : FlatCall Tryz.prog 251 [fieldV, sliceV 0 n c, intV n] ⟨1, [(0, .cells (upTo (fun r => fl (bv r)) 0 n) s)]⟩ (.int .i64 0) := by
  have h := Q.c1 (Ex × Env × Objs) (fFT finiteK) bv c s (fun ex e O => some (ex, e, O))
  rw [fnAll_eq n 0 _ fun j _ hj => hf j (by omega)] at h
  exact fun_flat (C := bfC (fFT finiteK)) bfC_ok zm_ok Tryz.func251 b251 (fun a _ => rollL_ok bfC_ok zm_ok 100 a) (Nat.le_of_ble_eq_true rfl) h (.inr rfl) (vs := [.int .i64 0]) rfl rfl
theorem beside_at {bv : Nat → Nat} {b c s : Nat} {H : AH} (hm : (b, .cells (upTo (fun r => fl (bv r)) 0 n) s) ∈ H.objs) (hf : ∀ i, i < n → gd (bv i) = true) : FlatCall Tryz.prog 251 [fieldV, sliceV b n c, intV n] H (.int .i64 0) := by
  refine FlatCall.one (beside_call Q hf) ?_ hm rfl
  have : ∀ m i, inns 0 (upTo (fun r => fl (bv r)) i m) = true := fun m => by
    induction m with
    | zero => intro i; rfl
    | succ m ih => intro i; simp only [upTo, inns, ih, Bool.and_true]; rfl
  exact this n 0
theorem gAll_eq {R : Type} {H : AH} : ∀ (m i : Nat) (k : Option R), (∀ j, i ≤ j → j < i + m → FlatCall Tryz.prog 251 [fieldV, sliceV (1 + j) n n, intV n] H (.int .i64 0)) → gAll (saysR Tryz.prog 251 (.int .i64 0)) n H i m k = k
  | 0, i, k, h => rfl
  | m + 1, i, k, h => by
    unfold gAll
    rw [says_eq (h i (Nat.le_refl _) (by omega)), gAll_eq m (i + 1) k fun j h1 h2 => h j (by omega) (by omega)]
theorem check_all {A : Nat → Nat → Nat} {sA sr ca : Nat} (hf : ∀ r j, r < n → j < n → gd (A r j) = true) :
    FlatCall Tryz.prog 250 [fieldV, sliceV 0 n ca] ⟨n + 3, (0, .cells (upTo (fun i => sliceV (1 + i) n n) 0 n) sA) :: upTo (fun i => (1 + i, .cells (upTo (fun j => fl (A i j)) 0 n) sr)) 0 n⟩ (.int .i64 0) := by
  have h := Q.c0 (Ex × Env × Objs) (saysR Tryz.prog 251 (.int .i64 0)) (fun i => .cells (upTo (fun j => fl (A i j)) 0 n) sr) sA ca (fun ex e O => some (ex, e, O))
  have hC : (chC (saysR Tryz.prog 251 (.int .i64 0))).Ok := uC_ok .nil (.cons (says_ok rfl) h251 .nil) .nil
  rw [gAll_eq Q n 0 _ fun j _ hj => beside_at Q (List.mem_cons_of_mem _ (List.mem_cons_of_mem _ (mem_upTo.2 ⟨j, by omega, by omega, rfl⟩))) fun i hi => hf j i (by omega) hi] at h
  exact fun_flat (C := chC (saysR Tryz.prog 251 (.int .i64 0))) hC zm_ok Tryz.func250 b250 (fun a _ => rollL_ok hC zm_ok 100 a) (Nat.le_of_ble_eq_true rfl) h (.inr rfl) (vs := [.int .i64 0]) rfl rfl
end
end Go.Vm
namespace Go.Vm
open Go.Proofs
set_option linter.unusedVariables false
set_option linter.unusedSectionVars false
set_option linter.unusedSimpArgs false
set_option maxRecDepth 1000000

/-! ### solved: steps' answer, seen from there -/
def idn (m : Nat) (j : Nat) : Option Nat := bif Nat.blt j m then some j else none
def bsF (n : Nat) : List Nat := [n + 5, n + 6, n + 7, n + 8] ++ upTo (fun i => n + 2 + 7 + i) 0 n
def bsB (n : Nat) : List Nat := [n + 5, n + 6, n + 2 + n + 8, n + 2 + n + 10]
def endL (n : Nat) (W : Nat → Nat → Nat) : Objs := (n + 5, .cells (upTo (fun i => sliceV (n + 2 + 7 + i) (n + 1) (n + 1)) 0 n) 1) :: upTo (fun i => (n + 2 + 7 + i, rowV W n i)) 0 n
structure Eql (n : Nat) : Prop where
  args : ∀ ca cb, renL (idn (n + 2)) (stArgs n ca cb) = some (stArgs n ca cb)
  old : ∀ A bv sA sr sb, renOs (idn (n + 2)) (oldO (n + 2) (ooS n A bv sA sr sb)) = some (oldO (n + 2) (ooS n A bv sA sr sb))
  vf : renV (placeC (idn (n + 2)) (n + 2) (n + 3) (bsF n)) (.tuple ⟨[.agg ⟨sysL (n + 2) n n (n + 2 + 5) (n + 2 + 6)⟩, .bool true]⟩) = some (stV (n + 3) n n true)
  vb : ∀ l, renV (placeC (idn (n + 2)) (n + 2) (n + 3) (bsB n)) (.tuple ⟨[.agg ⟨sysL (n + 2) n (l + 1) (n + 2 + n + 8) (n + 2 + n + 10)⟩, .bool false]⟩) = some (stV (n + 3) n (l + 1) false)
  objs : ∀ W, renOs (placeC (idn (n + 2)) (n + 2) (n + 3) (bsF n)) (endL n W) = some (stA (n + 3) n W)
theorem eql_3 : Eql 3 := ⟨fun ca cb => by kernel_rfl, fun A bv sA sr sb => by kernel_rfl, by kernel_rfl, fun l => by kernel_rfl, fun W => by kernel_rfl⟩
theorem eql_4 : Eql 4 := ⟨fun ca cb => by kernel_rfl, fun A bv sA sr sb => by kernel_rfl, by kernel_rfl, fun l => by kernel_rfl, fun W => by kernel_rfl⟩
theorem eql_5 : Eql 5 := ⟨fun ca cb => by kernel_rfl, fun A bv sA sr sb => by kernel_rfl, by kernel_rfl, fun l => by kernel_rfl, fun W => by kernel_rfl⟩
theorem eql_6 : Eql 6 := ⟨fun ca cb => by kernel_rfl, fun A bv sA sr sb => by kernel_rfl, by kernel_rfl, fun l => by kernel_rfl, fun W => by kernel_rfl⟩
theorem eql_7 : Eql 7 := ⟨fun ca cb => by kernel_rfl, fun A bv sA sr sb => by kernel_rfl, by kernel_rfl, fun l => by kernel_rfl, fun W => by kernel_rfl⟩
theorem eql_8 : Eql 8 := ⟨fun ca cb => by kernel_rfl, fun A bv sA sr sb => by kernel_rfl, by kernel_rfl, fun l => by kernel_rfl, fun W => by kernel_rfl⟩
section
variable {n : Nat} (Q : Eql n) {A : Nat → Nat → Nat} {bv : Nat → Nat} {ca cb sA sr sb : Nat}
include Q
theorem within_k : Within (idn (n + 2)) (inO n A bv sA sr sb) (kH n (ooS n A bv sA sr sb)) where
  obj := fun j o hm => by
    obtain ⟨k, o2, h1, h2, h3⟩ := renOs_back (Q.old A bv sA sr sb) hm
    exact ⟨k, o2, h2, h3, List.mem_cons_of_mem _ h1⟩
  lt := fun j o hm => by
    obtain ⟨k, h1, h2, e⟩ := mem_upTo.1 hm
    cases e
    show j < n + 2
    omega
  one := fun j o o' h1 h2 => by
    obtain ⟨k, _, _, e⟩ := mem_upTo.1 h1
    obtain ⟨k', _, _, e'⟩ := mem_upTo.1 h2
    cases e
    cases e'
    rfl
  inj := fun j j' k h1 h2 => by
    unfold idn at h1 h2
    cases h : Nat.blt j (n + 2) <;> cases h' : Nat.blt j' (n + 2) <;> rw [h] at h1 <;> rw [h'] at h2 <;> simp at h1 h2
    omega
  dom := fun j k h1 => by
    unfold idn at h1
    cases h : Nat.blt j (n + 2) with
    | true => rw [Nat.blt_eq] at h; exact h
    | false => rw [h] at h1; simp at h1
theorem steps_lift {W : Nat → Nat → Nat} (h : SmallCall Tryz.prog 252 (stArgs n ca cb) (inO n A bv sA sr sb) (.tuple ⟨[.agg ⟨sysL (n + 2) n n (n + 2 + 5) (n + 2 + 6)⟩, .bool true]⟩) ⟨n + 2 + 7 + n, endO (n + 2) n W (ooS n A bv sA sr sb)⟩) :
    MemCall Tryz.prog 252 (stArgs n ca cb) (kH n (ooS n A bv sA sr sb)) (stV (n + 3) n n true) ⟨n + 3 + 4 + n, stA (n + 3) n W ++ (kH n (ooS n A bv sA sr sb)).objs⟩ := by
  have hl : (bsF n).length = 4 + n := by
    unfold bsF
    rw [List.length_append, up_length]
    rfl
  have h2 := calls_lift (bs := bsF n) (A := stA (n + 3) n W) (within_k Q) (Q.args ca cb) Q.vf (fun k o2 hm => by
    obtain ⟨j, o, g1, g2, g3⟩ := renOs_mem (Q.objs W) hm
    have hj : n + 2 ≤ j := by
      rcases List.mem_cons.1 g1 with e | g1
      · cases e; omega
      · obtain ⟨i, _, _, e⟩ := mem_upTo.1 g1
        cases e; omega
    refine ⟨j, o, ?_, ?_, g3⟩
    · show (j, o) ∈ endO (n + 2) n W (ooS n A bv sA sr sb)
      unfold endO
      refine List.mem_append_left _ ?_
      rcases List.mem_cons.1 g1 with e | g1
      · rw [e]; exact List.mem_append_left _ (List.mem_cons_of_mem _ List.mem_cons_self)
      · exact List.mem_append_right _ g1
    · unfold placeC at g2
      rw [blt_false hj] at g2
      exact g2) (fun j hj => by
    show n + 2 ≤ j
    unfold bsF at hj
    rcases List.mem_append.1 hj with hj | hj
    · simp only [List.mem_cons, List.not_mem_nil, or_false] at hj
      omega
    · obtain ⟨i, _, _, rfl⟩ := mem_upTo.1 hj
      omega) h
  rw [hl] at h2
  intro lo ρ w args' a b c
  rw [show n + 3 + 4 + n = n + 3 + (4 + n) by omega]
  exact h2 lo ρ w args' a b c
theorem steps_lift_bad {l : Nat} {O : Objs} {N : Nat} (h : SmallCall Tryz.prog 252 (stArgs n ca cb) (inO n A bv sA sr sb) (.tuple ⟨[.agg ⟨sysL (n + 2) n (l + 1) (n + 2 + n + 8) (n + 2 + n + 10)⟩, .bool false]⟩) ⟨N, O⟩) :
    MemCall Tryz.prog 252 (stArgs n ca cb) (kH n (ooS n A bv sA sr sb)) (stV (n + 3) n (l + 1) false) ⟨n + 3 + 4, (kH n (ooS n A bv sA sr sb)).objs⟩ :=
  calls_lift (bs := bsB n) (A := []) (within_k Q) (Q.args ca cb) (Q.vb l) (fun k o2 hm => by simp at hm) (fun j hj => by
    show n + 2 ≤ j
    unfold bsB at hj
    simp only [List.mem_cons, List.not_mem_nil, or_false] at hj
    omega) h
end
end Go.Vm
