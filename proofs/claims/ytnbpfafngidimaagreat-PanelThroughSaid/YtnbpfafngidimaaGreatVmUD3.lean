/- What the solver answers is told; bounds of its numbers are premises. A part of the evaluator and of what is told of floats; no conditions. What a solution leaves over is small; bounds of the numbers are premises. -/
import Derived.Test.YtnbpfafngidimaaGreatVmUB4
import Derived.Test.YtnbpfafngidimaaGreatVmU1
import Derived.Laws.FloatBits
import Derived.Test.YtnbpfafngidimaaGreatVmP29
import Derived.Test.YtnbpfafngidimaaGreatVmRD4
namespace Go.Vm
open Go.Proofs
set_option linter.unusedVariables false
set_option linter.unusedSectionVars false
set_option linter.unusedSimpArgs false
set_option maxRecDepth 100000

/-! ### solved: the contract -/
theorem b214 : Tryz.f214.body = some (codeOf 214) := by kernel_rfl
/-- told not to be finite -/
def fF0 : KF1 := fun R a k => bif gd a then none else k
theorem k141n : SumOk Tryz.prog 141 (sFB0 fF0) := fun R args k r hr => by
  unfold sFB0 at hr; split at hr
  · rename_i a
    refine k141 R [.float .f64 a] k r ?_
    show forceB (leF (absW a) 9218868437227405311) (fun t => k (.bool t)) = some r
    rw [forceB_eq]
    unfold fF0 gd at hr
    cases h : leF (absW a) 9218868437227405311 with
    | true => rw [h] at hr; cases hr
    | false => rw [h] at hr; exact hr
  · cases hr
theorem bgC_ok : (bgC fF0).Ok := uC_ok (.cons k141n h141 .nil) .nil .nil
def okX (x : Option Nat) : Prop := ∃ w, x = some w ∧ gd w = true
theorem valX_word {xs : Nat → Option Nat} {k w : Nat} (h : xs k = some w) : upd1 (valX xs) k (fl w) = valX xs := by
  have := valX_self xs k
  rw [h] at this
  exact this
theorem valX_none {xs : Nat → Option Nat} {k : Nat} (h : xs k = none) : upd1 (valX xs) k (valF none) = valX xs := by
  have := valX_self xs k
  rw [h] at this
  exact this
section
variable {n : Nat} (Q : Eqw n) {oo : Nat → AObj}
include Q
theorem bf_step {k : Nat} (hk : k < n) (W : Nat → Nat → Nat) {xs : Nat → Option Nat} (h : okX (xs k)) :
    BaseOk Tryz.prog (n + 2) 111 (oldH n oo) (bfE (n + 2) n k) (bkH (n + 2) n W (valX xs) oo) .normal (bfE (n + 2) n (k + 1)) (bkH (n + 2) n W (valX xs) oo) (fun Q a w => bfLoop.wp Tryz.prog Q a w) := by
  obtain ⟨w, h1, h2⟩ := h
  have e := Q.f k hk (Ex × Env × AH) (fFT finiteK) oo W (valX xs) w (fun ex e H => some (ex, e, H))
  rw [gd_yes h2, valX_word h1] at e
  exact base_told (C := bfC (fFT finiteK)) (n := 100) (L := noL) (ts := bfTs) (bo := bkBo (n + 2) n) bfC_ok zm_ok (fun a _ => noL_okB) e bk_old
theorem bf_some {k : Nat} (hk : k ≤ n) (W : Nat → Nat → Nat) {xs : Nat → Option Nat} (h : ∀ j, j < k → okX (xs j)) {ex : Ex} {e' : Env} {H' : AH} (he : BaseRounds Tryz.prog (n + 2) 111 (oldH n oo) bfLoop (bfE (n + 2) n k) (bkH (n + 2) n W (valX xs) oo) ex e' H') :
    BaseOk Tryz.prog (n + 2) 111 (oldH n oo) (bfE (n + 2) n 0) (bkH (n + 2) n W (valX xs) oo) ex e' H' (fun Q a w => Code.wp Tryz.prog (.loop bfLoop) Q a w) :=
  base_loopB (base_count (E := fun j => bfE (n + 2) n j) (H := fun _ => bkH (n + 2) n W (valX xs) oo) k 0 (fun j _ hj => bf_step Q (by omega) W (h j (by omega))) (by rw [Nat.zero_add]; exact he))
theorem bf_good (W : Nat → Nat → Nat) {xs : Nat → Option Nat} (h : ∀ j, j < n → okX (xs j)) :
    BaseOk Tryz.prog (n + 2) 111 (oldH n oo) (bfE (n + 2) n 0) (bkH (n + 2) n W (valX xs) oo) (.exit 4) (bfE (n + 2) n n) (bkH (n + 2) n W (valX xs) oo) (fun Q a w => Code.wp Tryz.prog (.loop bfLoop) Q a w) :=
  bf_some Q (Nat.le_refl n) W h (base_end (by intro h; cases h) (base_told (C := bfC (fFT finiteK)) (n := 100) (L := noL) (ts := bfTs) (bo := bkBo (n + 2) n) bfC_ok zm_ok (fun a _ => noL_okB) (Q.fx (Ex × Env × AH) (fFT finiteK) oo W (valX xs) (fun ex e H => some (ex, e, H))) bk_old))
theorem bf_bad {k : Nat} (hk : k < n) (W : Nat → Nat → Nat) {xs : Nat → Option Nat} (h : ∀ j, j < k → okX (xs j)) (h0 : ¬ okX (xs k)) :
    BaseOk Tryz.prog (n + 2) 111 (oldH n oo) (bfE (n + 2) n 0) (bkH (n + 2) n W (valX xs) oo) .ret badE (bkH (n + 2) n W (valX xs) oo) (fun Q a w => Code.wp Tryz.prog (.loop bfLoop) Q a w) := by
  refine bf_some Q (Nat.le_of_lt hk) W h (base_end (by intro h; cases h) ?_)
  cases hx : xs k with
  | none =>
    have e := Q.nn k hk (Ex × Env × AH) oo W (valX xs) (fun ex e H => some (ex, e, H))
    rw [valX_none hx] at e
    exact base_told (C := bkC) (n := 100) (L := noL) (ts := [7, 6]) (bo := bkBo (n + 2) n) bkC_ok zm_ok (fun a _ => noL_okB) e bk_old
  | some w =>
    have hg : gd w = false := by
      cases g : gd w with
      | false => rfl
      | true => exact absurd ⟨w, hx, g⟩ h0
    have e := Q.g k hk (Ex × Env × AH) fF0 oo W (valX xs) w (fun ex e H => some (ex, e, H))
    have e0 : ∀ X : Option (Ex × Env × AH), fF0 (Ex × Env × AH) w X = X := fun X => by unfold fF0; rw [hg]; rfl
    rw [valX_word hx, e0] at e
    exact base_told (C := bgC fF0) (n := 100) (L := noL) (ts := [7, 6]) (bo := bkBo (n + 2) n) bgC_ok zm_ok (fun a _ => noL_okB) e bk_old
end
/-- what steps answers, if it is this -/
noncomputable def stT (n : Nat) (res : Option (Nat → Nat → Nat)) (l : Nat) : KSt := fun R args H kb kf =>
  open Classical in match res with
  | none => if MemCall Tryz.prog 252 args H (stV H.next n (l + 1) false) ⟨H.next + 4, H.objs⟩ then kb l else none
  | some W => if MemCall Tryz.prog 252 args H (stV H.next n n true) ⟨H.next + 4 + n, stA H.next n W ++ H.objs⟩ then kf W else none
theorem stT_ok {n : Nat} {res : Option (Nat → Nat → Nat)} {l : Nat} : MSumOk Tryz.prog 252 (sSt n (stT n res l)) := fun R args H k r h => by
  unfold sSt stT at h
  split at h
  · split at h
    · rename_i hc; exact ⟨_, _, h, hc⟩
    · cases h
  · split at h
    · rename_i hc; exact ⟨_, _, h, hc⟩
    · cases h
/-- the answers -/
def noX : Value := .tuple ⟨[nilS, .int .i64 141]⟩
def xsV (n : Nat) : Value := .tuple ⟨[sliceV (n + 2 + 6 + n) n n, .int .i64 0]⟩
theorem svC_ok {n : Nat} {res : Option (Nat → Nat → Nat)} {l : Nat} : (svC n fiReal (saysR Tryz.prog 250 (.int .i64 0)) (saysR Tryz.prog 251 (.int .i64 0)) (stT n res l)).Ok :=
  uC_ok .nil (.cons (says_ok rfl) h250 (.cons (says_ok rfl) h251 .nil)) (.cons stT_ok h252 .nil)
section
variable {n : Nat} (Qc : Eqc n) (Qw : Eqw n) (Qt : Eqt n) {A : Nat → Nat → Nat} {bv : Nat → Nat} {ca cb sA sr sb : Nat}
theorem top_old {lo : Nat} : oldIn lo (topBo n) (inO n A bv sA sr sb).objs = true := oldIn_up fun k _ h => List.mem_cons_of_mem _ (mem_upTo.2 ⟨k, by omega, by omega, rfl⟩)
theorem sv_loops {ex1 ex2 : Ex} {e1 e2 : Env} {H1 H2 : AH} : ∀ a ∈ loopsIn (codeOf 214), LOkB Tryz.prog (inO n A bv sA sr sb) (orL 98 (tellS bfTs (bkBo (n + 2) n) ex1 e1 H1 (tellR Tryz.prog (inO n A bv sA sr sb))) (tellS biTs (bkBo (n + 2) n) ex2 e2 H2 (tellR Tryz.prog (inO n A bv sA sr sb)))) a :=
  fun a _ => orL_okB (tellS_okB fun lo => bk_old) (tellS_okB fun lo => bk_old)
include Qc in
theorem checks (hA : ∀ r j, r < n → j < n → gd (A r j) = true) (hb : ∀ r, r < n → gd (bv r) = true) :
    FlatCall Tryz.prog 250 [fieldV, sliceV 0 n ca] (kH n (ooS n A bv sA sr sb)) (.int .i64 0) ∧ FlatCall Tryz.prog 251 [fieldV, sliceV (n + 1) n cb, intV n] (kH n (ooS n A bv sA sr sb)) (.int .i64 0) := by
  have o0 : (0, AObj.cells (upTo (fun i => sliceV (1 + i) n n) 0 n) sA) ∈ (kH n (ooS n A bv sA sr sb)).objs := List.mem_cons_of_mem _ (mem_upTo.2 ⟨0, by omega, by omega, rfl⟩)
  refine ⟨FlatCall.sup (check_all Qc hA (sA := sA) (sr := sr)) fun x hx => ?_, beside_at Qc (b := n + 1) (s := sb) ?_ hb⟩
  · rcases List.mem_cons.1 hx with rfl | hx
    · exact o0
    · obtain ⟨i, _, h2, rfl⟩ := mem_upTo.1 hx
      refine List.mem_cons_of_mem _ (mem_upTo.2 ⟨1 + i, by omega, by omega, ?_⟩)
      unfold ooS
      rw [beq_ne (show 1 + i ≠ 0 by omega), beq_ne (show 1 + i ≠ n + 1 by omega), show 1 + i - 1 = i by omega]
      rfl
  · refine List.mem_cons_of_mem _ (mem_upTo.2 ⟨n + 1, by omega, by omega, ?_⟩)
    unfold ooS
    rw [beq_ne (show n + 1 ≠ 0 by omega), show Nat.beq (n + 1) (n + 1) = true by simp]
    rfl
include Qc Qw Qt
/-- solved, and all is finite -/
theorem solved_good (hA : ∀ r j, r < n → j < n → gd (A r j) = true) (hb : ∀ r, r < n → gd (bv r) = true) {W : Nat → Nat → Nat} {xs : Nat → Option Nat} (hxs : xs = bX n W n)
    (hs : MemCall Tryz.prog 252 (stArgs n ca cb) (kH n (ooS n A bv sA sr sb)) (stV (n + 3) n n true) ⟨n + 3 + 4 + n, stA (n + 3) n W ++ (kH n (ooS n A bv sA sr sb)).objs⟩) (hx : ∀ j, j < n → okX (xs j)) :
    SmallCall Tryz.prog 214 (stArgs n ca cb) (inO n A bv sA sr sb) (xsV n) ⟨n + 2 + 7 + n, (n + 2 + 6 + n, .cells (upTo (valX xs) 0 n) 0) :: oldO (n + 2) (ooS n A bv sA sr sb)⟩ := by
  subst hxs
  obtain ⟨c1, c2⟩ := checks Qc (ca := ca) (cb := cb) (sA := sA) (sr := sr) (sb := sb) hA hb
  have e := Qt.tg (Ex × Env × AH) (saysR Tryz.prog 250 (.int .i64 0)) (saysR Tryz.prog 251 (.int .i64 0)) (stT n (some W) 0) (tellR Tryz.prog (inO n A bv sA sr sb)) (tellR Tryz.prog (inO n A bv sA sr sb)) A bv ca cb sA sr sb W (valX (bX n W n)) (fun ex e H => some (ex, e, H))
  rw [says_eq c1, says_eq c2] at e
  have e1 : ∀ (kb : Nat → Option (Ex × Env × AH)) (kf : (Nat → Nat → Nat) → Option (Ex × Env × AH)), stT n (some W) 0 (Ex × Env × AH) (stArgs n ca cb) (kH n (ooS n A bv sA sr sb)) kb kf = kf W := fun kb kf => by
    unfold stT
    exact if_pos hs
  rw [e1] at e
  have b1 := bi_all Qw (oo := ooS n A bv sA sr sb) W
  have b2 := bf_good Qw (oo := ooS n A bv sA sr sb) W hx
  have e2 := (e.trans (tell_eqB b1)).trans (tell_eqB b2)
  have b := base_told (H0 := inO n A bv sA sr sb) svC_ok zm_ok sv_loops e2 top_old
  exact calls_next (H := inO n A bv sA sr sb) Tryz.func214 b214 (Nat.le_of_ble_eq_true rfl) (BaseOk.code b) (.inr rfl) (vs := [sliceV (n + 2 + 6 + n) n n, .int .i64 0]) rfl
/-- .. and something is not finite -/
theorem solved_inf (hA : ∀ r j, r < n → j < n → gd (A r j) = true) (hb : ∀ r, r < n → gd (bv r) = true) {W : Nat → Nat → Nat} {xs : Nat → Option Nat} (hxs : xs = bX n W n)
    (hs : MemCall Tryz.prog 252 (stArgs n ca cb) (kH n (ooS n A bv sA sr sb)) (stV (n + 3) n n true) ⟨n + 3 + 4 + n, stA (n + 3) n W ++ (kH n (ooS n A bv sA sr sb)).objs⟩) {k : Nat} (hk : k < n) (hx : ∀ j, j < k → okX (xs j)) (h0 : ¬ okX (xs k)) :
    SmallCall Tryz.prog 214 (stArgs n ca cb) (inO n A bv sA sr sb) noX ⟨n + 2 + 7 + n, oldO (n + 2) (ooS n A bv sA sr sb)⟩ := by
  subst hxs
  obtain ⟨c1, c2⟩ := checks Qc (ca := ca) (cb := cb) (sA := sA) (sr := sr) (sb := sb) hA hb
  have e := Qt.tb (Ex × Env × AH) (saysR Tryz.prog 250 (.int .i64 0)) (saysR Tryz.prog 251 (.int .i64 0)) (stT n (some W) 0) (tellR Tryz.prog (inO n A bv sA sr sb)) (tellR Tryz.prog (inO n A bv sA sr sb)) A bv ca cb sA sr sb W (valX (bX n W n)) (fun ex e H => some (ex, e, H))
  rw [says_eq c1, says_eq c2] at e
  have e1 : ∀ (kb : Nat → Option (Ex × Env × AH)) (kf : (Nat → Nat → Nat) → Option (Ex × Env × AH)), stT n (some W) 0 (Ex × Env × AH) (stArgs n ca cb) (kH n (ooS n A bv sA sr sb)) kb kf = kf W := fun kb kf => by
    unfold stT
    exact if_pos hs
  rw [e1] at e
  have b1 := bi_all Qw (oo := ooS n A bv sA sr sb) W
  have b2 := bf_bad Qw (oo := ooS n A bv sA sr sb) hk W hx h0
  have e2 := (e.trans (tell_eqB b1)).trans (tell_eqB b2)
  have b := base_told (H0 := inO n A bv sA sr sb) svC_ok zm_ok sv_loops e2 (oldIn_up fun k _ h => mem_upTo.2 ⟨k, by omega, by omega, rfl⟩)
  exact calls_next (H := inO n A bv sA sr sb) Tryz.func214 b214 (Nat.le_of_ble_eq_true rfl) (BaseOk.code b) (.inr rfl) (vs := [nilS, .int .i64 141]) rfl
/-- no pivot somewhere -/
theorem solved_bad (hA : ∀ r j, r < n → j < n → gd (A r j) = true) (hb : ∀ r, r < n → gd (bv r) = true) {l : Nat}
    (hs : MemCall Tryz.prog 252 (stArgs n ca cb) (kH n (ooS n A bv sA sr sb)) (stV (n + 3) n (l + 1) false) ⟨n + 3 + 4, (kH n (ooS n A bv sA sr sb)).objs⟩) :
    SmallCall Tryz.prog 214 (stArgs n ca cb) (inO n A bv sA sr sb) noX ⟨n + 8, oldO (n + 2) (ooS n A bv sA sr sb)⟩ := by
  obtain ⟨c1, c2⟩ := checks Qc (ca := ca) (cb := cb) (sA := sA) (sr := sr) (sb := sb) hA hb
  have e := Qt.tb (Ex × Env × AH) (saysR Tryz.prog 250 (.int .i64 0)) (saysR Tryz.prog 251 (.int .i64 0)) (stT n none l) (tellR Tryz.prog (inO n A bv sA sr sb)) (tellR Tryz.prog (inO n A bv sA sr sb)) A bv ca cb sA sr sb A (valX (fun _ => none)) (fun ex e H => some (ex, e, H))
  rw [says_eq c1, says_eq c2] at e
  have e1 : ∀ (kb : Nat → Option (Ex × Env × AH)) (kf : (Nat → Nat → Nat) → Option (Ex × Env × AH)), stT n none l (Ex × Env × AH) (stArgs n ca cb) (kH n (ooS n A bv sA sr sb)) kb kf = kb l := fun kb kf => by
    unfold stT
    exact if_pos hs
  rw [e1] at e
  have b := base_told (H0 := inO n A bv sA sr sb) svC_ok zm_ok sv_loops e (oldIn_up fun k _ h => mem_upTo.2 ⟨k, by omega, by omega, rfl⟩)
  exact calls_next (H := inO n A bv sA sr sb) Tryz.func214 b214 (Nat.le_of_ble_eq_true rfl) (BaseOk.code b) (.inr rfl) (vs := [nilS, .int .i64 141]) rfl
end
end Go.Vm
namespace Go.Vm
open Go.Proofs
set_option linter.unusedVariables false
set_option linter.unusedSectionVars false
set_option linter.unusedSimpArgs false

/-! ### What the way back found -/
theorem quo_lt64 {a b w : Nat} (h : fbF .quo a b = some w) : w < 2 ^ 64 := by
  rw [fbF_eq] at h
  exact Ieee.double.div_lt h
section
variable {n : Nat} {W : Nat → Nat → Nat}
theorem upd1_ne {α : Type} {f : Nat → α} {c i : Nat} {x : α} (h : i ≠ c) : upd1 f c x i = f i := by
  unfold upd1
  rw [beq_ne h]
  rfl
theorem upd1_eq {α : Type} {f : Nat → α} {c : Nat} {x : α} : upd1 f c x c = x := by
  unfold upd1
  simp
/-- what is found stays -/
theorem bX_stay {j k : Nat} (hk : n - j ≤ k) : ∀ m, j + m ≤ n → bX n W (j + m) k = bX n W j k
  | 0, h => rfl
  | m + 1, h => by
    rw [show j + (m + 1) = (j + m) + 1 by omega]
    conv => lhs; unfold bX
    rw [upd1_ne (by omega)]
    exact bX_stay hk m (by omega)
theorem acc_congr {xs ys : Nat → Option Nat} {i : Nat} (h : ∀ k, i < k → k < n → xs k = ys k) : ∀ m, i + 1 + m ≤ n → accO n W xs i m = accO n W ys i m
  | 0, _ => rfl
  | m + 1, hm => by
    unfold accO
    rw [acc_congr h m (by omega), h (i + 1 + m) (by omega) (by omega)]
/-- each is what its row says -/
theorem bX_fix {i : Nat} (hi : i < n) : bX n W n i = overV (accO n W (bX n W n) i (n - (i + 1))) (W i i) := by
  have e : bX n W n i = bX n W (n - i) i := by
    have := bX_stay (n := n) (W := W) (j := n - i) (k := i) (by omega) i (by omega)
    rw [show n - i + i = n by omega] at this
    exact this
  rw [e, show n - i = (n - (i + 1)) + 1 by omega]
  conv => lhs; unfold bX
  rw [show n - (n - (i + 1) + 1) = i by omega, upd1_eq]
  congr 1
  refine acc_congr (fun k h1 h2 => ?_) _ (by omega)
  have := bX_stay (n := n) (W := W) (j := n - (i + 1)) (k := k) (by omega) (i + 1) (by omega)
  rw [show n - (i + 1) + (i + 1) = n by omega] at this
  exact this.symm
theorem bX_lt {i w : Nat} (hi : i < n) (h : bX n W n i = some w) : w < 2 ^ 64 := by
  rw [bX_fix hi] at h
  unfold overV at h
  cases ha : accO n W (bX n W n) i (n - (i + 1)) with
  | none => rw [ha] at h; cases h
  | some t => rw [ha] at h; exact quo_lt64 h
/-- the words, if all have come -/
def wordX (xs : Nat → Option Nat) (k : Nat) : Nat := (xs k).getD 0
theorem acc_word {xs : Nat → Option Nat} {i : Nat} (hx : ∀ k, k < n → xs k = some (wordX xs k)) : ∀ m, i + 1 + m ≤ n → ∀ t, accO n W xs i m = some t → t = tW W (wordX xs) i n m
  | 0, _, t, h => by cases h; rfl
  | m + 1, hm, t, h => by
    unfold accO at h
    rw [hx (i + 1 + m) (by omega)] at h
    cases ha : accO n W xs i m with
    | none => rw [ha] at h; cases h
    | some u =>
      rw [ha] at h
      have hu := acc_word hx m (by omega) u ha
      unfold lessV at h
      simp only at h
      cases hm' : fbF .mul (W i (i + 1 + m)) (wordX xs (i + 1 + m)) with
      | none => rw [hm'] at h; cases h
      | some v =>
        rw [hm'] at h
        unfold tW
        rw [← hu]
        unfold gSub gMul
        rw [hm']
        have h' : fbF .sub u v = some t := h
        show t = (fbF .sub u v).getD 0
        rw [h']
        rfl
theorem bX_quo {i : Nat} (hi : i < n) (hx : ∀ k, k < n → bX n W n k = some (wordX (bX n W n) k)) : wordX (bX n W n) i = gQuo (tW W (wordX (bX n W n)) i n (n - (i + 1))) (W i i) := by
  have h := bX_fix (W := W) hi
  rw [hx i hi] at h
  cases ha : accO n W (bX n W n) i (n - (i + 1)) with
  | none => rw [ha] at h; cases h
  | some t =>
    rw [ha] at h
    have ht := acc_word hx (n - (i + 1)) (by omega) t ha
    unfold gQuo
    rw [← ht]
    have h' : some (wordX (bX n W n) i) = fbF .quo t (W i i) := h
    rw [← h']
    rfl
end
end Go.Vm
namespace Go.Vm
open Go.Proofs
set_option linter.unusedVariables false
set_option linter.unusedSectionVars false
set_option linter.unusedSimpArgs false

/-! ### The system's rest, of what was found -/
theorem quo_huge {a b : Nat} (ha : Fin a) (hb : Fin b) (hb0 : vl b ≠ 0) (hq : Fin (gQuo a b)) (hs : fbF .quo a b = some (gQuo a b)) (hv : (vl (gQuo a b)).abs ≤ (2 : Rat) ^ (40 : Int)) : (vl a / vl b).abs ≤ huge := by
  have he := eps_pos
  have he1 := eps_tiny
  have p999 := p2_le (show (41 : Int) ≤ 999 by decide)
  have p41 := p2_half 41
  rw [show (41 - 1 : Int) = 40 by decide] at p41
  have p40 := p2_pos 40
  have h1 := quo_small (vl_is ha) (vl_is hb) hb0 hs (vl_is hq) (by grind)
  obtain ⟨w, z, e1, e2, e3⟩ := div_is (vl_is ha) (vl_is hb) hb0 h1
  have hw : gQuo a b = w := by unfold gQuo; rw [e1]; rfl
  rw [hw, vl_eq e2] at hv
  have t0 : 0 < tau := p2_pos _
  have ht : tau ≤ 1 := by
    unfold tau
    have := p2_le (show (-1000 : Int) ≤ 0 by decide)
    rw [Rat.zpow_zero] at this
    exact this
  have n0 := abs_nonneg (vl a / vl b)
  have h3 := e3.le (B := (vl a / vl b).abs + tau) (by grind) (by show tau ≤ _; grind)
  have h4 := abs_add_le (vl a / vl b - z) z
  rw [show vl a / vl b - z + z = vl a / vl b by grind] at h4
  rw [abs_sub_comm] at h3
  have h5 : eps * ((vl a / vl b).abs + tau) ≤ 1 / 1000 * ((vl a / vl b).abs + tau) := Rat.mul_le_mul_of_nonneg_right (by grind) (by grind)
  have p400 := p2_le (show (42 : Int) ≤ 400 by decide)
  have p42 := p2_half 42
  rw [show (42 - 1 : Int) = 41 by decide] at p42
  have p1 := one_le_p2 40
  unfold huge
  grind
section
variable {n : Nat} {W0 : Nat → Nat → Nat} {B0 D0 : Rat} (hB : ∀ r j, r < n → j < n → Le B0 (W0 r j)) (hD : ∀ r, r < n → Le D0 (W0 r n)) (hn : n ≤ 8) (tB : tau ≤ B0) (tD : tau ≤ D0) (bB : B0 * 300 ≤ (2 : Rat) ^ (300 : Int)) (bD : D0 * 300 ≤ (2 : Rat) ^ (300 : Int))
  (h : ∀ c, c < n → vl (Wc n W0 c (pvc n W0 c) c) ≠ 0)
theorem found_fin {W : Nat → Nat → Nat} (hx : ∀ k, k < n → ∃ w, bX n W n k = some w ∧ leF (absW w) 4787326403894837248 = true) {k : Nat} (hk : k < n) :
    bX n W n k = some (wordX (bX n W n) k) ∧ Fin (wordX (bX n W n) k) ∧ (vl (wordX (bX n W n) k)).abs ≤ (2 : Rat) ^ (40 : Int) := by
  obtain ⟨w, h1, h2⟩ := hx k hk
  have e : wordX (bX n W n) k = w := by unfold wordX; rw [h1]; rfl
  obtain ⟨P, q1, q2⟩ := within_is (bX_lt hk h1) h2
  rw [e]
  refine ⟨h1, ⟨P, q1⟩, ?_⟩
  rw [vl_eq q1]
  have : ((2 ^ 40 : Int) : Rat) = (2 : Rat) ^ (40 : Int) := by
    rw [show (40 : Int) = ((40 : Nat) : Int) by rfl, p2_nat]; rfl
  rw [← this]
  exact q2
include hB hD hn tB tD bB bD h
theorem found_off (tD3 : (2 : Rat) ^ (-300 : Int) ≤ D0) {X : Rat} (hx : ∀ k, k < n → ∃ w, bX n (Wc n W0 n) n k = some w ∧ leF (absW w) 4787326403894837248 = true)
    (hX : sm (fun j => (vl (wordX (bX n (Wc n W0 n) n) j)).abs) 0 n ≤ X) (hG : (D0 + B0 * X) * 300 ≤ (2 : Rat) ^ (390 : Int)) :
    ∀ r, r < n → (offBy W0 (fun j => vl (wordX (bX n (Wc n W0 n) n) j)) 0 n r).abs ≤ 40 * (eps * (D0 + B0 * X)) * es 0 n := by
  have E := elim_of hB hD hn tB tD bB bD n (Nat.le_refl n) h
  have ff := fun k hk => found_fin (W := Wc n W0 n) hx (k := k) hk
  have t0 : 0 < tau := p2_pos _
  have X0 : 0 ≤ X := Rat.le_trans (sm_nonneg (f := fun j => (vl (wordX (bX n (Wc n W0 n) n) j)).abs) (fun j => abs_nonneg _) n 0) hX
  have row : ∀ c, c < n → ∀ j, Wc n W0 n c j = swp c (pvc n W0 c) (Wc n W0 c) c j := fun c hc j => E.done hc n hc (Nat.le_refl n) j
  have tWe : ∀ c, c < n → ∀ m, tW (Wc n W0 n) (wordX (bX n (Wc n W0 n) n)) c n m = tW (swp c (pvc n W0 c) (Wc n W0 c)) (wordX (bX n (Wc n W0 n) n)) c n m := fun c hc m => by
    induction m with
    | zero => exact row c hc n
    | succ m ih => simp only [tW]; rw [ih, row c hc]
  have hq : ∀ c, c < n → wordX (bX n (Wc n W0 n) n) c = gQuo (tW (swp c (pvc n W0 c) (Wc n W0 c)) (wordX (bX n (Wc n W0 n) n)) c n (n - (c + 1))) (swp c (pvc n W0 c) (Wc n W0 c) c c) := fun c hc => by
    have := bX_quo (W := Wc n W0 n) hc fun k hk => (ff k hk).1
    rw [tWe c hc, row c hc] at this
    exact this
  have sub : ∀ c, c ≤ n → sm (fun j => (vl (wordX (bX n (Wc n W0 n) n) j)).abs) c (n - c) ≤ X := fun c hc => by
    have h1 := sm_split (fun j => (vl (wordX (bX n (Wc n W0 n) n) j)).abs) c (n - c) 0
    rw [show c + (n - c) = n by omega, Nat.zero_add] at h1
    have := sm_nonneg (f := fun j => (vl (wordX (bX n (Wc n W0 n) n) j)).abs) (fun j => abs_nonneg _) c 0
    grind
  have B00 : 0 ≤ B0 := by grind
  have G0 : 0 ≤ D0 + B0 * X := by have := Rat.mul_nonneg B00 X0; grind
  refine fun r hr => E.off hB hD hn tB tD bB bD rfl (fun j hj => (ff j hj).2.1) hX tD3 hG hq (fun c hc => ?_) n 0 (by omega) r (Nat.zero_le _) hr
  have bnd := E.bounds hB hD hn tB tD bB bD c (by omega)
  have g8 := gp_8
  have g1 := gp_ge c
  have g2 := gp_mono (show c ≤ 8 by omega)
  obtain ⟨r0, b1, b2, b3⟩ := E.rows hc (Nat.le_refl c) hc
  have D00 : 0 ≤ D0 := by grind
  have tg : tau ≤ gp c * D0 := by
    have := Rat.mul_le_mul_of_nonneg_right g1 D00
    grind
  have bg : 0 ≤ gp c * B0 := Rat.mul_nonneg (by grind) B00
  have gG : gp c * D0 + gp c * B0 * X ≤ (2 : Rat) ^ (390 : Int) := by
    have e : gp c * D0 + gp c * B0 * X = gp c * (D0 + B0 * X) := by grind
    rw [e]
    have := Rat.mul_le_mul_of_nonneg_right (show gp c ≤ 300 by grind) G0
    grind
  have hW := tW_ok (M := swp c (pvc n W0 c) (Wc n W0 c)) (xs := wordX (bX n (Wc n W0 n) n)) (m := n - (c + 1)) (B := gp c * B0) (D := gp c * D0) (X := X) (show n = c + 1 + (n - (c + 1)) by omega) (by omega) (fun j g1 g2 => by rw [b3]; exact (bnd r0 b1 b2).1 j (by omega) g2) (by rw [b3]; exact (bnd r0 b1 b2).2) (fun j g1 g2 => (ff j g2).2.1) (sub (c + 1) (by omega)) tg bg gG (n - (c + 1)) (Nat.le_refl _)
  have fp : Fin (swp c (pvc n W0 c) (Wc n W0 c) c c) := by rw [b3]; exact ((bnd r0 b1 b2).1 c (Nat.le_refl _) hc).1
  have hz : vl (swp c (pvc n W0 c) (Wc n W0 c) c c) ≠ 0 := by rw [swp_top]; exact E.nz c hc
  have e1 := hq c hc
  have fx := (ff c hc)
  rw [e1] at fx
  refine quo_huge hW.1 fp hz fx.2.1 ?_ fx.2.2
  have e2 := bX_fix (W := Wc n W0 n) hc
  rw [fx.1] at e2
  cases ha : accO n (Wc n W0 n) (bX n (Wc n W0 n) n) c (n - (c + 1)) with
  | none => rw [ha] at e2; cases e2
  | some t =>
    rw [ha] at e2
    have ht := acc_word (fun k hk => (ff k hk).1) (n - (c + 1)) (by omega) t ha
    rw [tWe c hc] at ht
    rw [← ht]
    rw [row c hc] at e2
    rw [← ht] at e2
    exact e2.symm
end
end Go.Vm
namespace Go.Vm
open Go.Proofs
set_option maxRecDepth 1000000
theorem eqc_3 : Eqc 3 := ⟨by intro R g oo sA ca K; kernel_rfl, by intro R fn bv c s K; kernel_rfl⟩
theorem eqc_4 : Eqc 4 := ⟨by intro R g oo sA ca K; kernel_rfl, by intro R fn bv c s K; kernel_rfl⟩
theorem eqc_5 : Eqc 5 := ⟨by intro R g oo sA ca K; kernel_rfl, by intro R fn bv c s K; kernel_rfl⟩
theorem eqc_6 : Eqc 6 := ⟨by intro R g oo sA ca K; kernel_rfl, by intro R fn bv c s K; kernel_rfl⟩
theorem eqc_7 : Eqc 7 := ⟨by intro R g oo sA ca K; kernel_rfl, by intro R fn bv c s K; kernel_rfl⟩
theorem eqc_8 : Eqc 8 := ⟨by intro R g oo sA ca K; kernel_rfl, by intro R fn bv c s K; kernel_rfl⟩
end Go.Vm
namespace Go.Vm
open Go.Proofs
set_option maxRecDepth 1000000
theorem eqt_3 : Eqt 3 := ⟨by intro R g0 g1 gs gb gf A bv ca cb sA sr sb W1 xv K; kernel_rfl, by intro R g0 g1 gs gb gf A bv ca cb sA sr sb W1 xv K; kernel_rfl⟩
theorem eqt_4 : Eqt 4 := ⟨by intro R g0 g1 gs gb gf A bv ca cb sA sr sb W1 xv K; kernel_rfl, by intro R g0 g1 gs gb gf A bv ca cb sA sr sb W1 xv K; kernel_rfl⟩
theorem eqt_5 : Eqt 5 := ⟨by intro R g0 g1 gs gb gf A bv ca cb sA sr sb W1 xv K; kernel_rfl, by intro R g0 g1 gs gb gf A bv ca cb sA sr sb W1 xv K; kernel_rfl⟩
theorem eqt_6 : Eqt 6 := ⟨by intro R g0 g1 gs gb gf A bv ca cb sA sr sb W1 xv K; kernel_rfl, by intro R g0 g1 gs gb gf A bv ca cb sA sr sb W1 xv K; kernel_rfl⟩
theorem eqt_7 : Eqt 7 := ⟨by intro R g0 g1 gs gb gf A bv ca cb sA sr sb W1 xv K; kernel_rfl, by intro R g0 g1 gs gb gf A bv ca cb sA sr sb W1 xv K; kernel_rfl⟩
theorem eqt_8 : Eqt 8 := ⟨by intro R g0 g1 gs gb gf A bv ca cb sA sr sb W1 xv K; kernel_rfl, by intro R g0 g1 gs gb gf A bv ca cb sA sr sb W1 xv K; kernel_rfl⟩
end Go.Vm
namespace Go.Vm
open Go.Proofs
set_option linter.unusedVariables false
set_option maxRecDepth 1000000
theorem bj_3_0 : ∀ k, k < 2 → EqBj 3 0 (0 + 1 + k) := by
  repeat' first | exact lt_none | refine lt_split ?_ ?_
  all_goals (intro R oo W xv tx xx K; cases tx <;> cases xx <;> kernel_rfl)
theorem bj_3_1 : ∀ k, k < 1 → EqBj 3 1 (1 + 1 + k) := by
  repeat' first | exact lt_none | refine lt_split ?_ ?_
  all_goals (intro R oo W xv tx xx K; cases tx <;> cases xx <;> kernel_rfl)
theorem bx_3 : ∀ i, i < 3 → EqBx 3 i := by
  repeat' first | exact lt_none | refine lt_split ?_ ?_
  all_goals (intro R oo W xv tv K; kernel_rfl)
theorem bi_3 : ∀ i, i < 3 → EqBi 3 i := by
  repeat' first | exact lt_none | refine lt_split ?_ ?_
  all_goals (intro R oo W xv t g K; cases t <;> kernel_rfl)
theorem bf_3 : ∀ i, i < 3 → EqF 3 i := by
  repeat' first | exact lt_none | refine lt_split ?_ ?_
  all_goals (intro R fn oo W xv w K; kernel_rfl)
theorem bg_3 : ∀ i, i < 3 → EqG 3 i := by
  repeat' first | exact lt_none | refine lt_split ?_ ?_
  all_goals (intro R fn oo W xv w K; kernel_rfl)
theorem bn_3 : ∀ i, i < 3 → EqN 3 i := by
  repeat' first | exact lt_none | refine lt_split ?_ ?_
  all_goals (intro R oo W xv K; kernel_rfl)
theorem eqw_3 : Eqw 3 where
  bj := (lt_split (lt_split (lt_split lt_none bj_3_0) bj_3_1) lt_none)
  bx := bx_3
  bi := bi_3
  be := by intro R oo W xv K; kernel_rfl
  f := bf_3
  g := bg_3
  nn := bn_3
  fx := by intro R fn oo W xv K; kernel_rfl
theorem bj_4_0 : ∀ k, k < 3 → EqBj 4 0 (0 + 1 + k) := by
  repeat' first | exact lt_none | refine lt_split ?_ ?_
  all_goals (intro R oo W xv tx xx K; cases tx <;> cases xx <;> kernel_rfl)
theorem bj_4_1 : ∀ k, k < 2 → EqBj 4 1 (1 + 1 + k) := by
  repeat' first | exact lt_none | refine lt_split ?_ ?_
  all_goals (intro R oo W xv tx xx K; cases tx <;> cases xx <;> kernel_rfl)
theorem bj_4_2 : ∀ k, k < 1 → EqBj 4 2 (2 + 1 + k) := by
  repeat' first | exact lt_none | refine lt_split ?_ ?_
  all_goals (intro R oo W xv tx xx K; cases tx <;> cases xx <;> kernel_rfl)
theorem bx_4 : ∀ i, i < 4 → EqBx 4 i := by
  repeat' first | exact lt_none | refine lt_split ?_ ?_
  all_goals (intro R oo W xv tv K; kernel_rfl)
theorem bi_4 : ∀ i, i < 4 → EqBi 4 i := by
  repeat' first | exact lt_none | refine lt_split ?_ ?_
  all_goals (intro R oo W xv t g K; cases t <;> kernel_rfl)
theorem bf_4 : ∀ i, i < 4 → EqF 4 i := by
  repeat' first | exact lt_none | refine lt_split ?_ ?_
  all_goals (intro R fn oo W xv w K; kernel_rfl)
theorem bg_4 : ∀ i, i < 4 → EqG 4 i := by
  repeat' first | exact lt_none | refine lt_split ?_ ?_
  all_goals (intro R fn oo W xv w K; kernel_rfl)
theorem bn_4 : ∀ i, i < 4 → EqN 4 i := by
  repeat' first | exact lt_none | refine lt_split ?_ ?_
  all_goals (intro R oo W xv K; kernel_rfl)
theorem eqw_4 : Eqw 4 where
  bj := (lt_split (lt_split (lt_split (lt_split lt_none bj_4_0) bj_4_1) bj_4_2) lt_none)
  bx := bx_4
  bi := bi_4
  be := by intro R oo W xv K; kernel_rfl
  f := bf_4
  g := bg_4
  nn := bn_4
  fx := by intro R fn oo W xv K; kernel_rfl
theorem bj_5_0 : ∀ k, k < 4 → EqBj 5 0 (0 + 1 + k) := by
  repeat' first | exact lt_none | refine lt_split ?_ ?_
  all_goals (intro R oo W xv tx xx K; cases tx <;> cases xx <;> kernel_rfl)
theorem bj_5_1 : ∀ k, k < 3 → EqBj 5 1 (1 + 1 + k) := by
  repeat' first | exact lt_none | refine lt_split ?_ ?_
  all_goals (intro R oo W xv tx xx K; cases tx <;> cases xx <;> kernel_rfl)
theorem bj_5_2 : ∀ k, k < 2 → EqBj 5 2 (2 + 1 + k) := by
  repeat' first | exact lt_none | refine lt_split ?_ ?_
  all_goals (intro R oo W xv tx xx K; cases tx <;> cases xx <;> kernel_rfl)
theorem bj_5_3 : ∀ k, k < 1 → EqBj 5 3 (3 + 1 + k) := by
  repeat' first | exact lt_none | refine lt_split ?_ ?_
  all_goals (intro R oo W xv tx xx K; cases tx <;> cases xx <;> kernel_rfl)
theorem bx_5 : ∀ i, i < 5 → EqBx 5 i := by
  repeat' first | exact lt_none | refine lt_split ?_ ?_
  all_goals (intro R oo W xv tv K; kernel_rfl)
theorem bi_5 : ∀ i, i < 5 → EqBi 5 i := by
  repeat' first | exact lt_none | refine lt_split ?_ ?_
  all_goals (intro R oo W xv t g K; cases t <;> kernel_rfl)
theorem bf_5 : ∀ i, i < 5 → EqF 5 i := by
  repeat' first | exact lt_none | refine lt_split ?_ ?_
  all_goals (intro R fn oo W xv w K; kernel_rfl)
theorem bg_5 : ∀ i, i < 5 → EqG 5 i := by
  repeat' first | exact lt_none | refine lt_split ?_ ?_
  all_goals (intro R fn oo W xv w K; kernel_rfl)
theorem bn_5 : ∀ i, i < 5 → EqN 5 i := by
  repeat' first | exact lt_none | refine lt_split ?_ ?_
  all_goals (intro R oo W xv K; kernel_rfl)
theorem eqw_5 : Eqw 5 where
  bj := (lt_split (lt_split (lt_split (lt_split (lt_split lt_none bj_5_0) bj_5_1) bj_5_2) bj_5_3) lt_none)
  bx := bx_5
  bi := bi_5
  be := by intro R oo W xv K; kernel_rfl
  f := bf_5
  g := bg_5
  nn := bn_5
  fx := by intro R fn oo W xv K; kernel_rfl
theorem bj_6_0 : ∀ k, k < 5 → EqBj 6 0 (0 + 1 + k) := by
  repeat' first | exact lt_none | refine lt_split ?_ ?_
  all_goals (intro R oo W xv tx xx K; cases tx <;> cases xx <;> kernel_rfl)
theorem bj_6_1 : ∀ k, k < 4 → EqBj 6 1 (1 + 1 + k) := by
  repeat' first | exact lt_none | refine lt_split ?_ ?_
  all_goals (intro R oo W xv tx xx K; cases tx <;> cases xx <;> kernel_rfl)
theorem bj_6_2 : ∀ k, k < 3 → EqBj 6 2 (2 + 1 + k) := by
  repeat' first | exact lt_none | refine lt_split ?_ ?_
  all_goals (intro R oo W xv tx xx K; cases tx <;> cases xx <;> kernel_rfl)
theorem bj_6_3 : ∀ k, k < 2 → EqBj 6 3 (3 + 1 + k) := by
  repeat' first | exact lt_none | refine lt_split ?_ ?_
  all_goals (intro R oo W xv tx xx K; cases tx <;> cases xx <;> kernel_rfl)
theorem bj_6_4 : ∀ k, k < 1 → EqBj 6 4 (4 + 1 + k) := by
  repeat' first | exact lt_none | refine lt_split ?_ ?_
  all_goals (intro R oo W xv tx xx K; cases tx <;> cases xx <;> kernel_rfl)
theorem bx_6 : ∀ i, i < 6 → EqBx 6 i := by
  repeat' first | exact lt_none | refine lt_split ?_ ?_
  all_goals (intro R oo W xv tv K; kernel_rfl)
theorem bi_6 : ∀ i, i < 6 → EqBi 6 i := by
  repeat' first | exact lt_none | refine lt_split ?_ ?_
  all_goals (intro R oo W xv t g K; cases t <;> kernel_rfl)
theorem bf_6 : ∀ i, i < 6 → EqF 6 i := by
  repeat' first | exact lt_none | refine lt_split ?_ ?_
  all_goals (intro R fn oo W xv w K; kernel_rfl)
theorem bg_6 : ∀ i, i < 6 → EqG 6 i := by
  repeat' first | exact lt_none | refine lt_split ?_ ?_
  all_goals (intro R fn oo W xv w K; kernel_rfl)
theorem bn_6 : ∀ i, i < 6 → EqN 6 i := by
  repeat' first | exact lt_none | refine lt_split ?_ ?_
  all_goals (intro R oo W xv K; kernel_rfl)
theorem eqw_6 : Eqw 6 where
  bj := (lt_split (lt_split (lt_split (lt_split (lt_split (lt_split lt_none bj_6_0) bj_6_1) bj_6_2) bj_6_3) bj_6_4) lt_none)
  bx := bx_6
  bi := bi_6
  be := by intro R oo W xv K; kernel_rfl
  f := bf_6
  g := bg_6
  nn := bn_6
  fx := by intro R fn oo W xv K; kernel_rfl
end Go.Vm
namespace Go.Vm
open Go.Proofs
set_option linter.unusedVariables false
set_option maxRecDepth 1000000
theorem bj_7_0 : ∀ k, k < 6 → EqBj 7 0 (0 + 1 + k) := by
  repeat' first | exact lt_none | refine lt_split ?_ ?_
  all_goals (intro R oo W xv tx xx K; cases tx <;> cases xx <;> kernel_rfl)
theorem bj_7_1 : ∀ k, k < 5 → EqBj 7 1 (1 + 1 + k) := by
  repeat' first | exact lt_none | refine lt_split ?_ ?_
  all_goals (intro R oo W xv tx xx K; cases tx <;> cases xx <;> kernel_rfl)
theorem bj_7_2 : ∀ k, k < 4 → EqBj 7 2 (2 + 1 + k) := by
  repeat' first | exact lt_none | refine lt_split ?_ ?_
  all_goals (intro R oo W xv tx xx K; cases tx <;> cases xx <;> kernel_rfl)
theorem bj_7_3 : ∀ k, k < 3 → EqBj 7 3 (3 + 1 + k) := by
  repeat' first | exact lt_none | refine lt_split ?_ ?_
  all_goals (intro R oo W xv tx xx K; cases tx <;> cases xx <;> kernel_rfl)
theorem bj_7_4 : ∀ k, k < 2 → EqBj 7 4 (4 + 1 + k) := by
  repeat' first | exact lt_none | refine lt_split ?_ ?_
  all_goals (intro R oo W xv tx xx K; cases tx <;> cases xx <;> kernel_rfl)
theorem bj_7_5 : ∀ k, k < 1 → EqBj 7 5 (5 + 1 + k) := by
  repeat' first | exact lt_none | refine lt_split ?_ ?_
  all_goals (intro R oo W xv tx xx K; cases tx <;> cases xx <;> kernel_rfl)
theorem bx_7 : ∀ i, i < 7 → EqBx 7 i := by
  repeat' first | exact lt_none | refine lt_split ?_ ?_
  all_goals (intro R oo W xv tv K; kernel_rfl)
theorem bi_7 : ∀ i, i < 7 → EqBi 7 i := by
  repeat' first | exact lt_none | refine lt_split ?_ ?_
  all_goals (intro R oo W xv t g K; cases t <;> kernel_rfl)
theorem bf_7 : ∀ i, i < 7 → EqF 7 i := by
  repeat' first | exact lt_none | refine lt_split ?_ ?_
  all_goals (intro R fn oo W xv w K; kernel_rfl)
theorem bg_7 : ∀ i, i < 7 → EqG 7 i := by
  repeat' first | exact lt_none | refine lt_split ?_ ?_
  all_goals (intro R fn oo W xv w K; kernel_rfl)
theorem bn_7 : ∀ i, i < 7 → EqN 7 i := by
  repeat' first | exact lt_none | refine lt_split ?_ ?_
  all_goals (intro R oo W xv K; kernel_rfl)
theorem eqw_7 : Eqw 7 where
  bj := (lt_split (lt_split (lt_split (lt_split (lt_split (lt_split (lt_split lt_none bj_7_0) bj_7_1) bj_7_2) bj_7_3) bj_7_4) bj_7_5) lt_none)
  bx := bx_7
  bi := bi_7
  be := by intro R oo W xv K; kernel_rfl
  f := bf_7
  g := bg_7
  nn := bn_7
  fx := by intro R fn oo W xv K; kernel_rfl
end Go.Vm
namespace Go.Vm
open Go.Proofs
set_option linter.unusedVariables false
set_option maxRecDepth 1000000
theorem bj_8_0 : ∀ k, k < 7 → EqBj 8 0 (0 + 1 + k) := by
  repeat' first | exact lt_none | refine lt_split ?_ ?_
  all_goals (intro R oo W xv tx xx K; cases tx <;> cases xx <;> kernel_rfl)
theorem bj_8_1 : ∀ k, k < 6 → EqBj 8 1 (1 + 1 + k) := by
  repeat' first | exact lt_none | refine lt_split ?_ ?_
  all_goals (intro R oo W xv tx xx K; cases tx <;> cases xx <;> kernel_rfl)
theorem bj_8_2 : ∀ k, k < 5 → EqBj 8 2 (2 + 1 + k) := by
  repeat' first | exact lt_none | refine lt_split ?_ ?_
  all_goals (intro R oo W xv tx xx K; cases tx <;> cases xx <;> kernel_rfl)
theorem bj_8_3 : ∀ k, k < 4 → EqBj 8 3 (3 + 1 + k) := by
  repeat' first | exact lt_none | refine lt_split ?_ ?_
  all_goals (intro R oo W xv tx xx K; cases tx <;> cases xx <;> kernel_rfl)
theorem bj_8_4 : ∀ k, k < 3 → EqBj 8 4 (4 + 1 + k) := by
  repeat' first | exact lt_none | refine lt_split ?_ ?_
  all_goals (intro R oo W xv tx xx K; cases tx <;> cases xx <;> kernel_rfl)
theorem bj_8_5 : ∀ k, k < 2 → EqBj 8 5 (5 + 1 + k) := by
  repeat' first | exact lt_none | refine lt_split ?_ ?_
  all_goals (intro R oo W xv tx xx K; cases tx <;> cases xx <;> kernel_rfl)
theorem bj_8_6 : ∀ k, k < 1 → EqBj 8 6 (6 + 1 + k) := by
  repeat' first | exact lt_none | refine lt_split ?_ ?_
  all_goals (intro R oo W xv tx xx K; cases tx <;> cases xx <;> kernel_rfl)
theorem bx_8 : ∀ i, i < 8 → EqBx 8 i := by
  repeat' first | exact lt_none | refine lt_split ?_ ?_
  all_goals (intro R oo W xv tv K; kernel_rfl)
theorem bi_8 : ∀ i, i < 8 → EqBi 8 i := by
  repeat' first | exact lt_none | refine lt_split ?_ ?_
  all_goals (intro R oo W xv t g K; cases t <;> kernel_rfl)
theorem bf_8 : ∀ i, i < 8 → EqF 8 i := by
  repeat' first | exact lt_none | refine lt_split ?_ ?_
  all_goals (intro R fn oo W xv w K; kernel_rfl)
theorem bg_8 : ∀ i, i < 8 → EqG 8 i := by
  repeat' first | exact lt_none | refine lt_split ?_ ?_
  all_goals (intro R fn oo W xv w K; kernel_rfl)
theorem bn_8 : ∀ i, i < 8 → EqN 8 i := by
  repeat' first | exact lt_none | refine lt_split ?_ ?_
  all_goals (intro R oo W xv K; kernel_rfl)
theorem eqw_8 : Eqw 8 where
  bj := (lt_split (lt_split (lt_split (lt_split (lt_split (lt_split (lt_split (lt_split lt_none bj_8_0) bj_8_1) bj_8_2) bj_8_3) bj_8_4) bj_8_5) bj_8_6) lt_none)
  bx := bx_8
  bi := bi_8
  be := by intro R oo W xv K; kernel_rfl
  f := bf_8
  g := bg_8
  nn := bn_8
  fx := by intro R fn oo W xv K; kernel_rfl
end Go.Vm
namespace Go.Vm
open Go.Proofs
set_option linter.unusedVariables false
set_option maxRecDepth 1000000
theorem pb_3 : EqPb 3 := by intro R ab fn A bv ca cb sA sr sb g H' K; kernel_rfl
theorem pf_3 : EqPf 3 := by intro R ab fn A bv ca cb sA sr sb g fi W ps os K; kernel_rfl
theorem pr_3 : EqPr 3 := by intro oo W; exact ⟨by kernel_rfl, by kernel_rfl⟩
theorem eqp_3 : Eqp 3 := ⟨pb_3, pf_3, pr_3⟩
theorem pb_4 : EqPb 4 := by intro R ab fn A bv ca cb sA sr sb g H' K; kernel_rfl
theorem pf_4 : EqPf 4 := by intro R ab fn A bv ca cb sA sr sb g fi W ps os K; kernel_rfl
theorem pr_4 : EqPr 4 := by intro oo W; exact ⟨by kernel_rfl, by kernel_rfl⟩
theorem eqp_4 : Eqp 4 := ⟨pb_4, pf_4, pr_4⟩
theorem pb_5 : EqPb 5 := by intro R ab fn A bv ca cb sA sr sb g H' K; kernel_rfl
theorem pf_5 : EqPf 5 := by intro R ab fn A bv ca cb sA sr sb g fi W ps os K; kernel_rfl
theorem pr_5 : EqPr 5 := by intro oo W; exact ⟨by kernel_rfl, by kernel_rfl⟩
theorem eqp_5 : Eqp 5 := ⟨pb_5, pf_5, pr_5⟩
theorem pb_6 : EqPb 6 := by intro R ab fn A bv ca cb sA sr sb g H' K; kernel_rfl
theorem pf_6 : EqPf 6 := by intro R ab fn A bv ca cb sA sr sb g fi W ps os K; kernel_rfl
theorem pr_6 : EqPr 6 := by intro oo W; exact ⟨by kernel_rfl, by kernel_rfl⟩
theorem eqp_6 : Eqp 6 := ⟨pb_6, pf_6, pr_6⟩
theorem pb_7 : EqPb 7 := by intro R ab fn A bv ca cb sA sr sb g H' K; kernel_rfl
theorem pf_7 : EqPf 7 := by intro R ab fn A bv ca cb sA sr sb g fi W ps os K; kernel_rfl
theorem pr_7 : EqPr 7 := by intro oo W; exact ⟨by kernel_rfl, by kernel_rfl⟩
theorem eqp_7 : Eqp 7 := ⟨pb_7, pf_7, pr_7⟩
theorem pb_8 : EqPb 8 := by intro R ab fn A bv ca cb sA sr sb g H' K; kernel_rfl
theorem pf_8 : EqPf 8 := by intro R ab fn A bv ca cb sA sr sb g fi W ps os K; kernel_rfl
theorem pr_8 : EqPr 8 := by intro oo W; exact ⟨by kernel_rfl, by kernel_rfl⟩
theorem eqp_8 : Eqp 8 := ⟨pb_8, pf_8, pr_8⟩
end Go.Vm
namespace Go.Vm
open Go.Proofs
set_option linter.unusedVariables false
set_option maxRecDepth 1000000
/-! ### 3 unknowns: the equations -/
theorem pv_3_0_0 : ∀ j, j < 1 → EqPv 3 0 1 (0 + j) := by
  repeat' first | exact lt_none | refine lt_split ?_ ?_
  all_goals (intro R ab fn oo fi ps os W K; kernel_rfl)
theorem pv_3_0_1 : ∀ j, j < 2 → EqPv 3 0 2 (0 + j) := by
  repeat' first | exact lt_none | refine lt_split ?_ ?_
  all_goals (intro R ab fn oo fi ps os W K; kernel_rfl)
theorem px_3_0 : ∀ j, j < 3 → EqPx 3 0 (0 + j) := by
  repeat' first | exact lt_none | refine lt_split ?_ ?_
  all_goals (intro R ab fn oo fi ps os W K; kernel_rfl)
theorem row_3_0 : ∀ r, r < 2 → EqRow 3 0 r := by
  repeat' first | exact lt_none | refine lt_split ?_ ?_
  all_goals (intro R ab fn oo fi ps os W x K; kernel_rfl)
theorem rx_3_0 : EqRx 3 0 := by intro R ab fn oo fi ps os W x K; kernel_rfl
theorem mid_3_0 : ∀ j, j < 3 → EqMid 3 0 (0 + j) := by
  repeat' first | exact lt_none | refine lt_split ?_ ?_
  all_goals (intro R ab fn oo fi fi' ps ps' os os' W W' g1 g2 K; kernel_rfl)
theorem pv_3_1_0 : ∀ j, j < 1 → EqPv 3 1 2 (1 + j) := by
  repeat' first | exact lt_none | refine lt_split ?_ ?_
  all_goals (intro R ab fn oo fi ps os W K; kernel_rfl)
theorem px_3_1 : ∀ j, j < 2 → EqPx 3 1 (1 + j) := by
  repeat' first | exact lt_none | refine lt_split ?_ ?_
  all_goals (intro R ab fn oo fi ps os W K; kernel_rfl)
theorem row_3_1 : ∀ r, r < 1 → EqRow 3 1 r := by
  repeat' first | exact lt_none | refine lt_split ?_ ?_
  all_goals (intro R ab fn oo fi ps os W x K; kernel_rfl)
theorem rx_3_1 : EqRx 3 1 := by intro R ab fn oo fi ps os W x K; kernel_rfl
theorem mid_3_1 : ∀ j, j < 2 → EqMid 3 1 (1 + j) := by
  repeat' first | exact lt_none | refine lt_split ?_ ?_
  all_goals (intro R ab fn oo fi fi' ps ps' os os' W W' g1 g2 K; kernel_rfl)
theorem px_3_2 : ∀ j, j < 1 → EqPx 3 2 (2 + j) := by
  repeat' first | exact lt_none | refine lt_split ?_ ?_
  all_goals (intro R ab fn oo fi ps os W K; kernel_rfl)
theorem rx_3_2 : EqRx 3 2 := by intro R ab fn oo fi ps os W x K; kernel_rfl
theorem mid_3_2 : ∀ j, j < 1 → EqMid 3 2 (2 + j) := by
  repeat' first | exact lt_none | refine lt_split ?_ ?_
  all_goals (intro R ab fn oo fi fi' ps ps' os os' W W' g1 g2 K; kernel_rfl)
theorem ren_3_0 : ∀ j, j < 3 → EqRen 3 0 (0 + j) := by
  repeat' first | exact lt_none | refine lt_split ?_ ?_
  all_goals (intro oo fi ps os W x; exact ⟨by kernel_rfl, by kernel_rfl⟩)
theorem ren_3_1 : ∀ j, j < 2 → EqRen 3 1 (1 + j) := by
  repeat' first | exact lt_none | refine lt_split ?_ ?_
  all_goals (intro oo fi ps os W x; exact ⟨by kernel_rfl, by kernel_rfl⟩)
theorem ren_3_2 : ∀ j, j < 1 → EqRen 3 2 (2 + j) := by
  repeat' first | exact lt_none | refine lt_split ?_ ?_
  all_goals (intro oo fi ps os W x; exact ⟨by kernel_rfl, by kernel_rfl⟩)
theorem end_3 : EqEnd 3 := by intro R ab fn oo fi ps os W K; kernel_rfl
theorem eqs_3 : Eqs 3 where
  pv := (lt_split (lt_split (lt_split lt_none (lt_split (lt_split lt_none pv_3_0_0) pv_3_0_1)) (lt_split lt_none pv_3_1_0)) lt_none)
  px := (lt_split (lt_split (lt_split lt_none px_3_0) px_3_1) px_3_2)
  row := (lt_split (lt_split (lt_split lt_none row_3_0) row_3_1) lt_none)
  rx := (lt_split (lt_split (lt_split lt_none rx_3_0) rx_3_1) rx_3_2)
  mid := (lt_split (lt_split (lt_split lt_none mid_3_0) mid_3_1) mid_3_2)
  ren := (lt_split (lt_split (lt_split lt_none ren_3_0) ren_3_1) ren_3_2)
  fin := end_3
end Go.Vm
