/- A part of the evaluator and of what is told of floats; no conditions. -/
import Derived.Test.YtnbpfafngidimaaGreatVmV12
import Derived.Test.YtnbpfafngidimaaGreatVmRD4
import Derived.Test.YtnbpfafngidimaaGreatVmV1
namespace Go.Vm
open Go.Proofs
set_option linter.unusedVariables false
set_option maxRecDepth 1000000
theorem l3_3 : ∀ i, i < 3 → EqL3 3 i := by
  repeat' first | exact lt_none | refine lt_split ?_ ?_
  all_goals (intro R gi gb at_ ab sd th s m X po o x y q l t K; cases t <;> kernel_rfl)
theorem x3_3 : EqX3 3 := by intro R gi gb at_ ab sd th s m X po o x y q l t K; cases t <;> kernel_rfl
theorem l3_4 : ∀ i, i < 4 → EqL3 4 i := by
  repeat' first | exact lt_none | refine lt_split ?_ ?_
  all_goals (intro R gi gb at_ ab sd th s m X po o x y q l t K; cases t <;> kernel_rfl)
theorem x3_4 : EqX3 4 := by intro R gi gb at_ ab sd th s m X po o x y q l t K; cases t <;> kernel_rfl
theorem l3_5 : ∀ i, i < 5 → EqL3 5 i := by
  repeat' first | exact lt_none | refine lt_split ?_ ?_
  all_goals (intro R gi gb at_ ab sd th s m X po o x y q l t K; cases t <;> kernel_rfl)
theorem x3_5 : EqX3 5 := by intro R gi gb at_ ab sd th s m X po o x y q l t K; cases t <;> kernel_rfl
theorem l3_6 : ∀ i, i < 6 → EqL3 6 i := by
  repeat' first | exact lt_none | refine lt_split ?_ ?_
  all_goals (intro R gi gb at_ ab sd th s m X po o x y q l t K; cases t <;> kernel_rfl)
theorem x3_6 : EqX3 6 := by intro R gi gb at_ ab sd th s m X po o x y q l t K; cases t <;> kernel_rfl
end Go.Vm
namespace Go.Vm
open Go.Proofs
set_option linter.unusedVariables false
set_option maxRecDepth 1000000
theorem l3_7 : ∀ i, i < 7 → EqL3 7 i := by
  repeat' first | exact lt_none | refine lt_split ?_ ?_
  all_goals (intro R gi gb at_ ab sd th s m X po o x y q l t K; cases t <;> kernel_rfl)
theorem x3_7 : EqX3 7 := by intro R gi gb at_ ab sd th s m X po o x y q l t K; cases t <;> kernel_rfl
end Go.Vm
namespace Go.Vm
open Go.Proofs
set_option linter.unusedVariables false
set_option maxRecDepth 1000000
theorem l3_8 : ∀ i, i < 8 → EqL3 8 i := by
  repeat' first | exact lt_none | refine lt_split ?_ ?_
  all_goals (intro R gi gb at_ ab sd th s m X po o x y q l t K; cases t <;> kernel_rfl)
theorem x3_8 : EqX3 8 := by intro R gi gb at_ ab sd th s m X po o x y q l t K; cases t <;> kernel_rfl
end Go.Vm
namespace Go.Vm
open Go.Proofs
set_option linter.unusedVariables false
set_option linter.unusedSectionVars false
set_option linter.unusedSimpArgs false
set_option maxRecDepth 1000000

/-! ### PanelThrough: its loops, told -/
def w17 (n : Int) : Nat := floatOfInt .f64 (n.tmod 17)
theorem whole17_eq {R : Type} (n : Int) (k : Nat → Option R) : whole17 R n k = k (w17 n) := by
  unfold whole17 whole17B
  rw [fiReal_fair, forceN_eq]
  rfl
theorem w17_w16 (n : Int) : W16 (w17 n) := by
  have h1 := Int.tmod_lt_of_pos n (show (0 : Int) < 17 by decide)
  have h2 := Int.lt_tmod_of_pos n (show (0 : Int) < 17 by decide)
  exact ⟨n.tmod 17, by omega, ofInt_is (by omega)⟩
theorem z_at48 (wh : KIF) (R : Type) (a b : Int) (k : Value → Option R) : evFn (cx Tryz.prog [(134, sIF wh)]) 60 48 [.int .i64 a, .int .i64 b] k = wh R a fun x => wh R b fun y => k (.complex .f64 x y) := by kernel_rfl
def at48 : KIIC := fun R a b k => k (w17 a) (w17 b)
theorem at48_eq (R : Type) (a b : Int) (k : Nat → Nat → Option R) : at48 R a b k = k (w17 a) (w17 b) := rfl
theorem k48 : SumOk Tryz.prog 48 (sIIC at48) := sumOk_of zm_ok (.cons k134 h134 .nil) (n := 60) fun R args k r hr => by
  unfold sIIC at hr; split at hr
  · refine ⟨rfl, (z_at48 _ R _ _ k).trans ?_⟩
    rw [whole17_eq, whole17_eq]
    exact hr
  · cases hr
theorem h48 : Has Tryz.prog 48 := ⟨Tryz.f48, _, Tryz.func48, by kernel_rfl, rfl⟩
theorem one4 : OneCell Tryz.prog 4 := fun R cs off k => by kernel_rfl
noncomputable def lwR (gl : List (Nat × HSum)) (ml : List (Nat × MSum)) : Cx := lwC (rI .i64) rB at48 absK gl ml
theorem mmStub_ok : (mmOf lim2 [(3, gI .i64 (rI .i64)), (4, gB rB)] (fun _ _ _ _ _ => none) (fun _ _ _ _ _ _ _ _ _ => none)).Ok Tryz.prog := by
  exact ⟨fun t g hg => lds_ok (.cons (ldI_ok one3) (.cons (ldB_ok one4) .nil)) hg, (fun R cs off vs k r h => by cases h), (fun R t cs n c cx off m k r h => by cases h)⟩
theorem lwR_ok {gl : List (Nat × HSum)} (hg : GsOk Tryz.prog gl) {ml : List (Nat × MSum)} (hml : MsOk Tryz.prog ml) : (lwR gl ml).Ok :=
  let h := cxM_ok (P := Tryz.prog) no_meth (.cons k48 h48 (.cons k53 h53 .nil)) no_ext hg hml mmStub_ok
  { fair := h.fair, sums := h.sums, exts := h.exts, meths := h.meths, hs := h.hs, nan1 := h.nan1, gs := h.gs, ms := h.ms, mg := h.mg, mm := h.mm }
theorem lwL_none : ∀ i, i < 3 → loopsIn (lwL i) = [] := by
  repeat' first | exact lt_none | refine lt_split ?_ ?_
  all_goals kernel_rfl
/-! #### the places -/
theorem idx_yes {i L : Nat} (h : i < L) : idxB i L = true := by
  unfold idxB
  rw [decide_eq_true (show (0 : Int) ≤ Int.ofNat i from Int.natCast_nonneg i), decide_eq_true (show Int.ofNat i < (L : Int) from Int.ofNat_lt.2 h)]
  rfl
theorem lt_yes {i L : Nat} (h : i < L) : decide (Int.ofNat i < (L : Int)) = true := decide_eq_true (Int.ofNat_lt.2 h)
theorem lt_no {i L : Nat} (h : ¬ i < L) : decide (Int.ofNat i < (L : Int)) = false := decide_eq_false fun g => h (Int.ofNat_lt.1 g)
/-- places lie there -/
def PlAt (cs : List Value) (L : Nat) (A B : Nat → Int) : Prop := ∀ i, i < L → cs[2 * i]? = some (.int .i64 (A i)) ∧ cs[2 * i + 1]? = some (.int .i64 (B i))
theorem rI_get {cs : List Value} {i : Nat} {a : Int} (h : cs[i]? = some (.int .i64 a)) {R : Type} {k : Int → Option R} : rI .i64 R cs i k = k a := by
  unfold rI
  rw [h]
  rfl
theorem rB_get {cs : List Value} {i : Nat} {a : Bool} (h : cs[i]? = some (.bool a)) {R : Type} {k : Bool → Option R} : rB R cs i k = k a := by
  unfold rB
  rw [h]
def pl (A B : Nat → Int) (i : Nat) : Nat × Nat := (w17 (A i), w17 (B i))
/-- what is handed in stays what it is -/
def Stays (V : Value) : Prop := ∀ bs, renV (placeW 2 bs) V = some V
theorem stays_none {n c : Nat} : Stays (.slice none n c) := fun bs => rfl
theorem stays_some {b n c : Nat} (h : b < 2) : Stays (.slice (some ⟨b, 0, none⟩) n c) := fun bs => by
  have : placeW 2 bs b = some b := by unfold placeW; rw [blt_true h]; rfl
  simp [renV, this]
theorem placeW_hit {j : Nat} (h : 2 ≤ j) : placeW 2 [j] j = some 2 := by
  unfold placeW
  rw [blt_false h]
  exact place_self
theorem lw1A_pos {n : Nat} (h : 0 < n) (l : Nat → Nat × Nat) : lw1A n l = [(2, .cells (cxL l 0 n) 1)] := by
  cases n with
  | zero => omega
  | succ m => rfl
theorem vec_pos {b n : Nat} (h : 0 < n) : vecV b n = sliceV b n n := by
  cases n with
  | zero => omega
  | succ m => rfl
theorem lw1H_pos {n : Nat} (h : 0 < n) (l : Nat → Nat × Nat) (O : Objs) : lw1H n l O = ⟨3, (2, .cells (cxL l 0 n) 1) :: O⟩ := by
  cases n with
  | zero => omega
  | succ m => rfl
section
variable {L c0 sz : Nat} {cs : List Value} {A B : Nat → Int} (hp : PlAt cs L A B) {V1 : Value} (hV : Stays V1) {t : Bool} {y : AObj}
include hp hV
theorem l1_step {i : Nat} (hi : i < L) (h8 : i < 8) : BaseOk Tryz.prog 2 237 ⟨2, old1 t cs sz y⟩ (lw1E (some ⟨0, 0, none⟩) V1 L c0 i) (lw1H i (pl A B) (old1 t cs sz y)) .normal (lw1E (some ⟨0, 0, none⟩) V1 L c0 (i + 1)) (lw1H (i + 1) (pl A B) (old1 t cs sz y)) (fun Q a w => (lwL 0).wp Tryz.prog Q a w) := by
  have h := l1_all i h8 (Ex × Env × Objs) (rI .i64) rB at48 absK V1 L c0 sz cs y t (pl A B) fun ex e O => some (ex, e, O)
  rw [lt_yes hi, cond_true, idx_yes hi, cond_true, rI_get (hp i hi).1, cond_true, rI_get (hp i hi).2] at h
  have hN : 2 ≤ lw1N i := by
    cases i with
    | zero => exact (show 2 ≤ 3 by decide)
    | succ k => exact (show 2 ≤ 4 by decide)
  simp only [at48_eq] at h
  rw [show cxL (updP (pl A B) i (w17 (A i), w17 (B i))) 0 (i + 1) = cxL (pl A B) 0 (i + 1) from cxL_congr _ _ fun j _ _ => by
    by_cases hj : j = i
    · rw [hj, updP_eq]; rfl
    · rw [updP_ne hj]] at h
  have hb := lw1H_pos (Nat.succ_pos i) (pl A B) (old1 t cs sz y)
  rw [hb]
  refine round_told (C := lwR [] []) (H0 := ⟨2, old1 t cs sz y⟩) (n := 100) (ts := lw1T) (bo := lw1B i) (bs := [lw1N i]) (A := [(2, .cells (cxL (pl A B) 0 (i + 1)) 1)]) (B := old1 t cs sz y) (D := []) (lwR_ok .nil .nil) zm_ok (lwL_none 0 (by decide)) h ?_ ?_ ?_ rfl ?_ rfl rfl
  · show renE (placeW 2 [lw1N i]) [(0, sliceV 0 L c0), (1, V1), (5, .bool true), (6, sliceV (lw1N i) (i + 1) (i + 1)), (7, intV (i + 1))] = _
    simp only [renE, hV [lw1N i], stays_some (b := 0) (by decide) [lw1N i], sliceV, renV, placeW_hit hN, Option.bind_some, intV]
    rfl
  · show renOs (placeW 2 [lw1N i]) [(lw1N i, .cells (cxL (pl A B) 0 (i + 1)) 1)] = _
    simp only [renOs, renO, rens_flat (cxL_flat _ _ _), placeW_hit hN, Option.bind_some]
  · show (Nat.ble 2 (lw1N i) && true) = true
    rw [Bool.and_true, Nat.ble_eq]
    exact hN
  · cases t <;> rfl
/-- THE FIRST LOOP -/
theorem l1_loop (h0 : 0 < L) : BaseOk Tryz.prog 2 237 ⟨2, old1 t cs sz y⟩ [(0, sliceV 0 L c0), (1, V1), (5, .bool true), (6, nilS), (7, intV 0)] ⟨2, old1 t cs sz y⟩ (.exit 0) [(0, sliceV 0 L c0), (1, V1), (5, .bool true), (6, sliceV 2 (min L 8) (min L 8)), (7, intV (min L 8))] ⟨3, (2, .cells (cxL (pl A B) 0 (min L 8)) 1) :: old1 t cs sz y⟩ (fun Q a w => Code.wp Tryz.prog (.loop (lwL 0)) Q a w) := by
  have hn : 0 < min L 8 := by omega
  have hend : BaseOk Tryz.prog 2 237 ⟨2, old1 t cs sz y⟩ (lw1E (some ⟨0, 0, none⟩) V1 L c0 (min L 8)) (lw1H (min L 8) (pl A B) (old1 t cs sz y)) (.exit 0) (lw1E (some ⟨0, 0, none⟩) V1 L c0 (min L 8)) ⟨3, (2, .cells (cxL (pl A B) 0 (min L 8)) 1) :: old1 t cs sz y⟩ (fun Q a w => (lwL 0).wp Tryz.prog Q a w) := by
    have hE : renE (placeW 2 [2]) (lw1E (some ⟨0, 0, none⟩) V1 L c0 (min L 8)) = some (lw1E (some ⟨0, 0, none⟩) V1 L c0 (min L 8)) := by
      show renE (placeW 2 [2]) [(0, sliceV 0 L c0), (1, V1), (5, .bool true), (6, vecV 2 (min L 8)), (7, intV (min L 8))] = some [(0, sliceV 0 L c0), (1, V1), (5, .bool true), (6, vecV 2 (min L 8)), (7, intV (min L 8))]
      rw [vec_pos hn]
      simp only [renE, hV [2], stays_some (b := 0) (by decide) [2], sliceV, renV, placeW_hit (Nat.le_refl 2), Option.bind_some, intV]
    have hO : renOs (placeW 2 [2]) (lw1A (min L 8) (pl A B)) = some [(2, .cells (cxL (pl A B) 0 (min L 8)) 1)] := by
      rw [lw1A_pos hn]
      simp only [renOs, renO, rens_flat (cxL_flat _ _ _), placeW_hit (Nat.le_refl 2), Option.bind_some]
    by_cases h8 : L < 8
    · have e : min L 8 = L := by omega
      have h := l1_all L h8 (Ex × Env × Objs) (rI .i64) rB at48 absK V1 L c0 sz cs y t (pl A B) fun ex e O => some (ex, e, O)
      rw [lt_no (by omega), cond_false] at h
      rw [e] at hE hO ⊢
      exact round_told (C := lwR [] []) (H0 := ⟨2, old1 t cs sz y⟩) (n := 100) (ts := lw1T) (bo := lw1B L) (bs := [2]) (A := [(2, .cells (cxL (pl A B) 0 L) 1)]) (B := old1 t cs sz y) (D := []) (lwR_ok .nil .nil) zm_ok (lwL_none 0 (by decide)) h hE hO rfl rfl (by cases t <;> rfl) rfl rfl
    · have e : min L 8 = 8 := by omega
      have h := l1_full (Ex × Env × Objs) (rI .i64) rB at48 absK V1 L c0 sz cs y t (pl A B) fun ex e O => some (ex, e, O)
      have h' : evTop (lwC (rI .i64) rB at48 absK [] []) 100 noL 2 237 (lwL 0) (lw1E (some ⟨0, 0, none⟩) V1 L c0 8) (lw1H 8 (pl A B) (old1 t cs sz y)) (takeC lw1T [2] fun ex e O => some (ex, e, O)) = some (.exit 0, lw1E (some ⟨0, 0, none⟩) V1 L c0 8, lw1A 8 (pl A B)) := by
        rw [h]
        cases decide (Int.ofNat 8 < (L : Int)) <;> rfl
      rw [e] at hE hO ⊢
      exact round_told (C := lwR [] []) (H0 := ⟨2, old1 t cs sz y⟩) (n := 100) (ts := lw1T) (bo := [2]) (bs := [2]) (A := [(2, .cells (cxL (pl A B) 0 8) 1)]) (B := old1 t cs sz y) (D := []) (lwR_ok .nil .nil) zm_ok (lwL_none 0 (by decide)) h' hE hO rfl rfl (by cases t <;> rfl) rfl rfl
  have hr := base_count (P := Tryz.prog) (lo := 2) (sz := 237) (a := lwL 0) (H0 := ⟨2, old1 t cs sz y⟩) (E := fun i => lw1E (some ⟨0, 0, none⟩) V1 L c0 i) (H := fun i => lw1H i (pl A B) (old1 t cs sz y)) (min L 8) 0 (fun i _ hi => l1_step hp hV (by omega) (by omega)) (by
    rw [Nat.zero_add]
    exact base_end (by intro h; cases h) hend)
  have hl := base_loopB hr
  have e6 : lw1E (some ⟨0, 0, none⟩) V1 L c0 (min L 8) = [(0, sliceV 0 L c0), (1, V1), (5, .bool true), (6, sliceV 2 (min L 8) (min L 8)), (7, intV (min L 8))] := by
    show [(0, sliceV 0 L c0), (1, V1), (5, .bool true), (6, vecV 2 (min L 8)), (7, intV (min L 8))] = _
    rw [vec_pos hn]
  rw [e6] at hl
  exact hl
end
/-- no places -/
theorem l1_empty {V1 : Value} (hV : Stays V1) {a : Option Addr} {c0 : Nat} (hA : Stays (.slice a 0 c0)) {O : Objs} (hO : ltB 2 O = true) : BaseOk Tryz.prog 2 237 ⟨2, O⟩ [(0, .slice a 0 c0), (1, V1), (5, .bool true), (6, nilS), (7, intV 0)] ⟨2, O⟩ (.exit 0) [(0, .slice a 0 c0), (1, V1), (5, .bool true), (6, nilS), (7, intV 0)] ⟨3, O⟩ (fun Q a w => Code.wp Tryz.prog (.loop (lwL 0)) Q a w) := by
  have h := l1_none (Ex × Env × Objs) (rI .i64) rB at48 absK V1 a c0 O fun ex e O => some (ex, e, O)
  exact base_loopB (base_end (by intro h; cases h) (round_told (C := lwR [] []) (H0 := ⟨2, O⟩) (n := 100) (ts := lw1T) (bo := []) (bs := [2]) (A := []) (B := O) (D := []) (lwR_ok .nil .nil) zm_ok (lwL_none 0 (by decide)) h (by
    show renE (placeW 2 [2]) [(0, .slice a 0 c0), (1, V1), (5, .bool true), (6, nilS), (7, intV 0)] = _
    simp only [renE, hV [2], hA [2], Option.bind_some]
    rfl) rfl rfl rfl hO rfl rfl))
end Go.Vm
namespace Go.Vm
open Go.Proofs
set_option linter.unusedVariables false
set_option linter.unusedSectionVars false
set_option linter.unusedSimpArgs false
set_option maxRecDepth 1000000

/-! ### PanelThrough's second loop, told -/
structure FvAt (cs : List Value) (M : Nat) (So : Nat → Bool) (X Y S T : Nat → Int) : Prop where
  so : ∀ j, j < M → cs[5 * j]? = some (.bool (So j))
  x : ∀ j, j < M → cs[5 * j + 1]? = some (.int .i64 (X j))
  y : ∀ j, j < M → cs[5 * j + 2]? = some (.int .i64 (Y j))
  s : ∀ j, j < M → cs[5 * j + 3]? = some (.int .i64 (S j))
  t : ∀ j, j < M → cs[5 * j + 4]? = some (.int .i64 (T j))
def elF (So : Nat → Bool) (X Y S T : Nat → Int) (j : Nat) : El := bif So j then ⟨2, w17 (X j), w17 (Y j), w17 (S j), w17 (T j), 0⟩ else ⟨1, 0, 0, w17 (S j), w17 (T j), 0⟩
theorem elF_ok (So : Nat → Bool) (X Y S T : Nat → Int) (j : Nat) : ElOk (elF So X Y S T j) := by
  unfold elF
  cases So j with
  | true => exact ⟨w17_w16 _, w17_w16 _, w17_w16 _, w17_w16 _, rfl, .inr rfl⟩
  | false => exact ⟨w17_w16 _, w17_w16 _, w16_zero, w16_zero, rfl, .inl ⟨rfl, rfl, rfl⟩⟩
theorem updF_eq {f : Nat → El} {i : Nat} {x : El} : updF f i x i = x := by unfold updF; rw [Nat.beq_refl]
theorem updF_ne {f : Nat → El} {i j : Nat} {x : El} (h : j ≠ i) : updF f i x j = f j := by
  unfold updF
  rw [beq_ne h]
theorem elsV_congr {f g : Nat → El} : ∀ m i, (∀ j, i ≤ j → j < i + m → f j = g j) → elsV f i m = elsV g i m
  | 0, _, _ => rfl
  | m + 1, i, h => by
    simp only [elsV]
    rw [h i (Nat.le_refl _) (by omega), elsV_congr m (i + 1) fun j h1 h2 => h j (by omega) (by omega)]
theorem elsV_upd (f : Nat → El) (j : Nat) : elsV (updF f j (f j)) 0 (j + 1) = elsV f 0 (j + 1) := elsV_congr _ _ fun i _ _ => by
  by_cases hi : i = j
  · rw [hi, updF_eq]
  · rw [updF_ne hi]
/-- the list of places, or none -/
def lvB (b : Bool) (n : Nat) : Value := match b with
  | true => sliceV 2 n n
  | false => nilS
theorem lv_ren {b : Bool} {n N : Nat} {r : List Nat} : renV (placeW 2 (2 :: r)) (lvB b n) = some (lvB b n) := by
  cases b with
  | true =>
    have : placeW 2 (2 :: r) 2 = some 2 := rfl
    simp [lvB, renV, sliceV, this]
  | false => rfl
theorem ptr_ren {r : List Nat} : renV (placeW 2 (2 :: 3 :: r)) (ptrV 3) = some (ptrV 3) := rfl
theorem lo_ren {b : Bool} {lo : AObj} (hlo : ∀ q, renO q lo = some lo) {r : List Nat} : renOs (placeW 2 (2 :: r)) (loO b lo) = some (loO b lo) := by
  cases b with
  | true =>
    have : placeW 2 (2 :: r) 2 = some 2 := rfl
    simp only [loO, renOs, hlo, this, Option.bind_some]
  | false => rfl
theorem lw2H_pos {j : Nat} (h : 0 < j) (f : Nat → El) (b : Bool) (lo : AObj) (O : Objs) : lw2H j f b lo O = ⟨5, ((3, .cells [sliceV 4 j j] 0) :: (4, .cells (elsV f 0 j) 4) :: loO b lo) ++ O⟩ := by
  cases j with
  | zero => omega
  | succ m => rfl
theorem lw2A_pos {j : Nat} (h : 0 < j) (f : Nat → El) (b : Bool) (lo : AObj) : lw2A j f b lo = (3, .cells [sliceV 4 j j] 0) :: (4, .cells (elsV f 0 j) 4) :: loO b lo := by
  cases j with
  | zero => omega
  | succ m => rfl
theorem old2_lt {b : Bool} {x : AObj} {cs : List Value} {sz : Nat} : ltB 2 (old2 b x cs sz) = true := by cases b <;> rfl
theorem loO_ge {b : Bool} {lo : AObj} : geB 2 (loO b lo) = true := by cases b <;> rfl
section
variable {M c1 sz : Nat} {cs : List Value} {So : Nat → Bool} {X Y S T : Nat → Int} (hp : FvAt cs M So X Y S T) {n : Nat} {b : Bool} {x lo : AObj} (hlo : ∀ q, renO q lo = some lo)
include hp hlo
theorem l2_step {j : Nat} (hj : j < M) (h4 : j < 4) : BaseOk Tryz.prog 2 237 ⟨2, old2 b x cs sz⟩ (lw2E (some ⟨1, 0, none⟩) (lvB b n) M c1 j) (lw2H j (elF So X Y S T) b lo (old2 b x cs sz)) .normal (lw2E (some ⟨1, 0, none⟩) (lvB b n) M c1 (j + 1)) (lw2H (j + 1) (elF So X Y S T) b lo (old2 b x cs sz)) (fun Q a w => (lwL 1).wp Tryz.prog Q a w) := by
  have h := l2_all j h4 (Ex × Env × Objs) (rI .i64) rB at48 absK (lvB b n) M c1 sz cs x lo b (elF So X Y S T) fun ex e O => some (ex, e, O)
  have h' : evTop (lwC (rI .i64) rB at48 absK [] []) 100 noL 2 237 (lwL 1) (lw2E (some ⟨1, 0, none⟩) (lvB b n) M c1 j) (lw2H j (elF So X Y S T) b lo (old2 b x cs sz)) (takeC lw2T (lw2B j) fun ex e O => some (ex, e, O)) =
      lw2K (sliceV 1 M c1) (lvB b n) j (elF So X Y S T) b lo (fun ex e O => some (ex, e, O)) (elF So X Y S T j) := by
    rw [h, lt_yes hj, cond_true, idx_yes hj, cond_true, rI_get (hp.s j hj), cond_true, rI_get (hp.t j hj)]
    simp only [at48_eq]
    rw [cond_true, rB_get (hp.so j hj)]
    unfold elF
    cases hs : So j with
    | true =>
      simp only [cond_true]
      rw [rI_get (hp.x j hj), rI_get (hp.y j hj)]
    | false => rfl
  unfold lw2K at h'
  rw [elsV_upd] at h'
  rw [lw2H_pos (Nat.succ_pos j)]
  have hN : (lw2N j = 6 ∨ lw2N j = 7) := by cases j with
    | zero => exact .inl rfl
    | succ k => exact .inr rfl
  generalize lw2N j = N at h' hN
  have hpl : placeW 2 [2, 3, N] N = some 4 := by rcases hN with rfl | rfl <;> rfl
  have hp3 : placeW 2 [2, 3, N] 3 = some 3 := rfl
  have hst : renV (placeW 2 [2, 3, N]) (sliceV 1 M c1) = some (sliceV 1 M c1) := stays_some (b := 1) (by decide) _
  refine round_told (C := lwR [] []) (H0 := ⟨2, old2 b x cs sz⟩) (n := 100) (ts := lw2T) (bo := lw2B j) (bs := [2, 3, N]) (A := (3, .cells [sliceV 4 (j + 1) (j + 1)] 0) :: (4, .cells (elsV (elF So X Y S T) 0 (j + 1)) 4) :: loO b lo) (B := old2 b x cs sz) (D := []) (lwR_ok .nil .nil) zm_ok (lwL_none 1 (by decide)) h' ?_ ?_ ?_ rfl old2_lt ?_ rfl
  · show renE (placeW 2 [2, 3, N]) [(1, sliceV 1 M c1), (5, .bool true), (6, lvB b n), (8, ptrV 3), (9, intV (j + 1))] = some [(1, sliceV 1 M c1), (5, .bool true), (6, lvB b n), (8, ptrV 3), (9, intV (j + 1))]
    simp only [renE, hst, lv_ren (N := N), ptr_ren, Option.bind_some, renV, intV]
  · show renOs (placeW 2 [2, 3, N]) ((3, .cells [sliceV N (j + 1) (j + 1)] 0) :: (N, .cells (elsV (elF So X Y S T) 0 (j + 1)) 4) :: loO b lo) = _
    have hl := lo_ren (b := b) hlo (r := [3, N])
    simp only [renOs, renO, rens_flat (elsV_flat _ _ _), hpl, hp3, hl, Option.bind_some, renL, sliceV, renV]
  · show (Nat.ble 2 2 && (Nat.ble 2 3 && (Nat.ble 2 N && true))) = true
    rcases hN with rfl | rfl <;> rfl
  · show geB 2 ((3, _) :: (4, _) :: loO b lo) = true
    have := loO_ge (b := b) (lo := lo)
    simp only [geB, this]
    rfl
/-- THE SECOND LOOP -/
theorem l2_loop (h0 : 0 < M) : BaseOk Tryz.prog 2 237 ⟨2, old2 b x cs sz⟩ [(1, sliceV 1 M c1), (5, .bool true), (6, lvB b n), (8, ptrV 3), (9, intV 0)] ⟨4, (3, .cells [nilS] 0) :: (loO b lo ++ old2 b x cs sz)⟩ (.exit 2)
    [(1, sliceV 1 M c1), (5, .bool true), (6, lvB b n), (8, ptrV 3), (9, intV (min M 4))] ⟨5, (3, .cells [sliceV 4 (min M 4) (min M 4)] 0) :: (4, .cells (elsV (elF So X Y S T) 0 (min M 4)) 4) :: (loO b lo ++ old2 b x cs sz)⟩ (fun Q a w => Code.wp Tryz.prog (.loop (lwL 1)) Q a w) := by
  have hm : 0 < min M 4 := by omega
  have hend : BaseOk Tryz.prog 2 237 ⟨2, old2 b x cs sz⟩ (lw2E (some ⟨1, 0, none⟩) (lvB b n) M c1 (min M 4)) (lw2H (min M 4) (elF So X Y S T) b lo (old2 b x cs sz)) (.exit 2) (lw2E (some ⟨1, 0, none⟩) (lvB b n) M c1 (min M 4)) ⟨5, ((3, .cells [sliceV 4 (min M 4) (min M 4)] 0) :: (4, .cells (elsV (elF So X Y S T) 0 (min M 4)) 4) :: loO b lo) ++ old2 b x cs sz⟩ (fun Q a w => (lwL 1).wp Tryz.prog Q a w) := by
    have hst : renV (placeW 2 [2, 3, 4]) (sliceV 1 M c1) = some (sliceV 1 M c1) := stays_some (b := 1) (by decide) _
    have hE : renE (placeW 2 [2, 3, 4]) (lw2E (some ⟨1, 0, none⟩) (lvB b n) M c1 (min M 4)) = some (lw2E (some ⟨1, 0, none⟩) (lvB b n) M c1 (min M 4)) := by
      show renE (placeW 2 [2, 3, 4]) [(1, sliceV 1 M c1), (5, .bool true), (6, lvB b n), (8, ptrV 3), (9, intV (min M 4))] = some [(1, sliceV 1 M c1), (5, .bool true), (6, lvB b n), (8, ptrV 3), (9, intV (min M 4))]
      simp only [renE, hst, lv_ren (N := 4), ptr_ren, Option.bind_some, renV, intV]
    have hp4 : placeW 2 [2, 3, 4] 4 = some 4 := rfl
    have hp3 : placeW 2 [2, 3, 4] 3 = some 3 := rfl
    have hO : renOs (placeW 2 [2, 3, 4]) (lw2A (min M 4) (elF So X Y S T) b lo) = some ((3, .cells [sliceV 4 (min M 4) (min M 4)] 0) :: (4, .cells (elsV (elF So X Y S T) 0 (min M 4)) 4) :: loO b lo) := by
      rw [lw2A_pos hm]
      have hl := lo_ren (b := b) hlo (r := [3, 4])
      simp only [renOs, renO, rens_flat (elsV_flat _ _ _), hp4, hp3, hl, Option.bind_some, renL, sliceV, renV]
    have hA : ∀ v w : AObj, geB 2 ((3, v) :: (4, w) :: loO b lo) = true := fun v w => by
      have := loO_ge (b := b) (lo := lo)
      simp only [geB, this]
      rfl
    by_cases h8 : M < 4
    · have e : min M 4 = M := by omega
      have h := l2_all M h8 (Ex × Env × Objs) (rI .i64) rB at48 absK (lvB b n) M c1 sz cs x lo b (elF So X Y S T) fun ex e O => some (ex, e, O)
      rw [lt_no (by omega), cond_false] at h
      rw [e] at hE hO ⊢
      exact round_told (C := lwR [] []) (H0 := ⟨2, old2 b x cs sz⟩) (n := 100) (ts := lw2T) (bo := lw2B M) (bs := [2, 3, 4]) (B := old2 b x cs sz) (D := []) (lwR_ok .nil .nil) zm_ok (lwL_none 1 (by decide)) h hE hO rfl rfl old2_lt (hA _ _) rfl
    · have e : min M 4 = 4 := by omega
      have h := l2_full (Ex × Env × Objs) (rI .i64) rB at48 absK (lvB b n) M c1 sz cs x lo b (elF So X Y S T) fun ex e O => some (ex, e, O)
      have h' : evTop (lwC (rI .i64) rB at48 absK [] []) 100 noL 2 237 (lwL 1) (lw2E (some ⟨1, 0, none⟩) (lvB b n) M c1 4) (lw2H 4 (elF So X Y S T) b lo (old2 b x cs sz)) (takeC lw2T [3, 4, 2] fun ex e O => some (ex, e, O)) = some (.exit 2, lw2E (some ⟨1, 0, none⟩) (lvB b n) M c1 4, lw2A 4 (elF So X Y S T) b lo) := by
        rw [h]
        cases decide (Int.ofNat 4 < (M : Int)) <;> rfl
      rw [e] at hE hO ⊢
      exact round_told (C := lwR [] []) (H0 := ⟨2, old2 b x cs sz⟩) (n := 100) (ts := lw2T) (bo := [3, 4, 2]) (bs := [2, 3, 4]) (B := old2 b x cs sz) (D := []) (lwR_ok .nil .nil) zm_ok (lwL_none 1 (by decide)) h' hE hO rfl rfl old2_lt (hA _ _) rfl
  have hr := base_count (P := Tryz.prog) (lo := 2) (sz := 237) (a := lwL 1) (H0 := ⟨2, old2 b x cs sz⟩) (E := fun i => lw2E (some ⟨1, 0, none⟩) (lvB b n) M c1 i) (H := fun i => lw2H i (elF So X Y S T) b lo (old2 b x cs sz)) (min M 4) 0 (fun i _ hi => l2_step hp hlo (by omega) (by omega)) (by
    rw [Nat.zero_add]
    exact base_end (by intro h; cases h) hend)
  exact base_loopB hr
end
/-- no elements -/
theorem l2_empty {n : Nat} {b : Bool} {x lo : AObj} (hlo : ∀ q, renO q lo = some lo) {a : Option Addr} {c1 : Nat} (hA : Stays (.slice a 0 c1)) : BaseOk Tryz.prog 2 237 ⟨2, old0 b x⟩ [(1, .slice a 0 c1), (5, .bool true), (6, lvB b n), (8, ptrV 3), (9, intV 0)] ⟨4, (3, .cells [nilS] 0) :: (loO b lo ++ old0 b x)⟩ (.exit 2)
    [(1, .slice a 0 c1), (5, .bool true), (6, lvB b n), (8, ptrV 3), (9, intV 0)] ⟨5, (3, .cells [nilS] 0) :: (loO b lo ++ old0 b x)⟩ (fun Q a w => Code.wp Tryz.prog (.loop (lwL 1)) Q a w) := by
  have h := l2_none (Ex × Env × Objs) (rI .i64) rB at48 absK (lvB b n) a c1 x lo b (fun _ => ⟨0, 0, 0, 0, 0, 0⟩) fun ex e O => some (ex, e, O)
  have hp3 : placeW 2 [2, 3, 4] 3 = some 3 := rfl
  have hl := lo_ren (b := b) hlo (r := [3, 4])
  exact base_loopB (base_end (by intro h; cases h) (round_told (C := lwR [] []) (H0 := ⟨2, old0 b x⟩) (n := 100) (ts := lw2T) (bo := [3, 2]) (bs := [2, 3, 4]) (A := (3, .cells [nilS] 0) :: loO b lo) (B := old0 b x) (D := []) (lwR_ok .nil .nil) zm_ok (lwL_none 1 (by decide)) h (by
    show renE (placeW 2 [2, 3, 4]) [(1, .slice a 0 c1), (5, .bool true), (6, lvB b n), (8, ptrV 3), (9, intV 0)] = some [(1, .slice a 0 c1), (5, .bool true), (6, lvB b n), (8, ptrV 3), (9, intV 0)]
    simp only [renE, hA [2, 3, 4], lv_ren (N := 4), ptr_ren, Option.bind_some, renV, intV]) (by
    show renOs (placeW 2 [2, 3, 4]) ((3, .cells [nilS] 0) :: loO b lo) = _
    simp only [renOs, renO, hp3, hl, Option.bind_some, renL, nilS, renV]) rfl rfl (by cases b <;> rfl) (by
    show geB 2 ((3, _) :: loO b lo) = true
    have := loO_ge (b := b) (lo := lo)
    simp only [geB, this]
    rfl) rfl))
end Go.Vm
namespace Go.Vm
set_option linter.unusedVariables false
set_option linter.unusedSectionVars false
set_option linter.unusedSimpArgs false

/-! ### Held against one state ahead; what lies in the old memory is listed while it is needed -/
def BaseAt (P : Program) (ρ0 : Map) (w0 : World) (lo sz : Nat) (H0 : AH) (e : Env) (H : AH) (ex : Ex) (e' : Env) (H' : AH) (W : (Exit → Act → World → Prop) → Act → World → Prop) : Prop :=
  ∀ (ρ : Map) (w : World) (a : Act), Next lo ρ0 H0 w0 ρ H w → EnvRel ρ e a.tmps → a.tmps.size = sz →
    ∀ Q : Exit → Act → World → Prop, (∀ ρ' a' w', Next lo ρ0 H0 w0 ρ' H' w' → EnvRel ρ' e' a'.tmps → a'.tmps.size = sz → a'.defers = a.defers → Q ex.to a' w') → W Q a w
section
variable {P : Program} {ρ0 : Map} {w0 : World} {lo sz : Nat} {H0 H H' : AH} {e e' : Env} {ex : Ex} {W : (Exit → Act → World → Prop) → Act → World → Prop}
theorem BaseOk.fixed (h : BaseOk P lo sz H0 e H ex e' H' W) (hi : Inv ρ0 H0 w0) (hlo : lo ≤ H0.next) : BaseAt P ρ0 w0 lo sz H0 e H ex e' H' W := fun ρ w a hn he hs => h ρ0 w0 ρ w a hi hlo hn he hs
theorem BaseAt.env {e1 e2 : Env} (h : BaseAt P ρ0 w0 lo sz H0 e1 H ex e2 H' W) (h1 : ∀ t v, getE t e1 = some v → getE t e = some v) (h2 : ∀ t v, getE t e' = some v → getE t e2 = some v) : BaseAt P ρ0 w0 lo sz H0 e H ex e' H' W :=
  fun ρ w a hn he hs Q hQ => h _ _ _ hn (fun t v hv => he t v (h1 t v hv)) hs Q fun ρ' a' w' m1 m2 m3 m4 => hQ ρ' a' w' m1 (fun t v hv => m2 t v (h2 t v hv)) m3 m4
end
def LOkA (P : Program) (ρ0 : Map) (w0 : World) (lo : Nat) (H0 : AH) (L : Hand) (a : Code) : Prop :=
  ∀ (R : Type) (sz : Nat) (e : Env) (H : AH) (k : Ex → Env → AH → Option R) (r : R), L R lo sz a e H k = some r →
    ∃ ex e' H', k ex e' H' = some r ∧ BaseAt P ρ0 w0 lo sz H0 e H ex e' H' (fun Q act w => Code.wp P (.loop a) Q act w)
theorem orL_okA {P : Program} {ρ0 : Map} {w0 : World} {lo : Nat} {H0 : AH} {t : Nat} {A B : Hand} {a : Code} (hA : LOkA P ρ0 w0 lo H0 A a) (hB : LOkA P ρ0 w0 lo H0 B a) : LOkA P ρ0 w0 lo H0 (orL t A B) a := fun R sz e H k r h => by
  unfold orL at h
  split at h
  · exact hA R sz e H k r h
  · exact hB R sz e H k r h
noncomputable def tellG (P : Program) (ρ0 : Map) (w0 : World) (H0 : AH) : LT := fun R lo sz a e H ex e' H' k =>
  open Classical in if BaseAt P ρ0 w0 lo sz H0 e H ex e' H' (fun Q act w => Code.wp P (.loop a) Q act w) then k else none
theorem tell_eqA {P : Program} {ρ0 : Map} {w0 : World} {H0 : AH} {lo sz : Nat} {a : Code} {e : Env} {H : AH} {ex : Ex} {e' : Env} {H' : AH} {R : Type} {k : Option R} (h : BaseAt P ρ0 w0 lo sz H0 e H ex e' H' (fun Q act w => Code.wp P (.loop a) Q act w)) : tellG P ρ0 w0 H0 R lo sz a e H ex e' H' k = k := by
  unfold tellG
  rw [if_pos h]
theorem evTop_at {R : Type} {C : Cx} (hC : C.Ok) (hmix : C.P.follows .mixedOrders = true) {n : Nat} {ρ0 : Map} {w0 : World} {H0 : AH} {L : Hand} {lo sz : Nat} (hi : Inv ρ0 H0 w0) (hlo : lo ≤ H0.next) : ∀ (c : Code) (_ : ∀ a ∈ loopsIn c, LOkA C.P ρ0 w0 lo H0 L a) (e : Env) (H : AH) (k : Ex → Env → AH → Option R) (r : R), evTop C n L lo sz c e H k = some r →
    ∃ ex e' H', k ex e' H' = some r ∧ BaseAt C.P ρ0 w0 lo sz H0 e H ex e' H' (fun Q a w => c.wp C.P Q a w) := by
  intro c
  induction c with
  | skip => exact fun _ e H k r h => ⟨.normal, e, H, h, fun ρ w a hn he hs Q hQ => wp_skip (hQ ρ a w hn he hs rfl)⟩
  | region id ops draw =>
    intro _ e H k r h
    obtain ⟨ex, e', H', h1, h2⟩ := region_sound hC hmix (n := n) (id := id) (ops := ops) (draw := draw) (lo := lo) (sz := sz) (e := e) (H := H) (k := k) (r := r) (by simp only [evCode]; exact h)
    exact ⟨ex, e', H', h1, BaseOk.fixed (CodeOk.base @h2) hi hlo⟩
  | seq x y ihx ihy =>
    intro hL e H k r h
    simp only [evTop] at h
    obtain ⟨ex, e1, H1, h1, h2⟩ := ihx (fun a ha => hL a (by simp [loopsIn, ha])) _ _ _ _ h
    cases ex with
    | normal =>
      simp only at h1
      obtain ⟨ex', e', H', g1, g2⟩ := ihy (fun a ha => hL a (by simp [loopsIn, ha])) _ _ _ _ h1
      refine ⟨ex', e', H', g1, fun ρ w a hn he hs Q hQ => wp_seq ?_⟩
      refine h2 _ _ _ hn he hs _ fun ρ1 a1 w1 m1 m2 m3 m4 => ?_
      exact g2 _ _ _ m1 m2 m3 Q fun ρ' a' w' q1 q2 q3 q4 => hQ ρ' a' w' q1 q2 q3 (q4.trans m4)
    | exit id => exact ⟨.exit id, e1, H1, h1, fun ρ w a hn he hs Q hQ => wp_seq (h2 _ _ _ hn he hs _ fun ρ1 a1 w1 m1 m2 m3 m4 => hQ ρ1 a1 w1 m1 m2 m3 m4)⟩
    | ret => exact ⟨.ret, e1, H1, h1, fun ρ w a hn he hs Q hQ => wp_seq (h2 _ _ _ hn he hs _ fun ρ1 a1 w1 m1 m2 m3 m4 => hQ ρ1 a1 w1 m1 m2 m3 m4)⟩
  | cond x y z ihy ihz =>
    intro hL e H k r h
    simp only [evTop] at h
    obtain ⟨v, h1, h⟩ := bind_some' h
    split at h
    · rename_i t
      have hc : ∀ {ρ : Map} {a : Act}, EnvRel ρ e a.tmps → a.eval x = .bool t := fun {ρ a} he => by
        have := opd_rel he h1
        generalize a.eval x = v' at *
        cases this
        rfl
      cases t with
      | true =>
        obtain ⟨ex, e', H', g1, g2⟩ := ihy (fun a ha => hL a (by simp [loopsIn, ha])) _ _ _ _ (by simpa using h)
        exact ⟨ex, e', H', g1, fun ρ w a hn he hs Q hQ => wp_cond_true (hc he) (g2 _ _ _ hn he hs Q hQ)⟩
      | false =>
        obtain ⟨ex, e', H', g1, g2⟩ := ihz (fun a ha => hL a (by simp [loopsIn, ha])) _ _ _ _ (by simpa using h)
        exact ⟨ex, e', H', g1, fun ρ w a hn he hs Q hQ => wp_cond_false (hc he) (g2 _ _ _ hn he hs Q hQ)⟩
    · cases h
  | block id x ihx =>
    intro hL e H k r h
    simp only [evTop] at h
    obtain ⟨ex, e1, H1, h1, h2⟩ := ihx (fun a ha => hL a (by simp [loopsIn, ha])) _ _ _ _ h
    cases ex with
    | normal => exact ⟨.normal, e1, H1, h1, fun ρ w a hn he hs Q hQ => wp_block (h2 _ _ _ hn he hs _ fun ρ1 a1 w1 m1 m2 m3 m4 => hQ ρ1 a1 w1 m1 m2 m3 m4)⟩
    | ret => exact ⟨.ret, e1, H1, h1, fun ρ w a hn he hs Q hQ => wp_block (h2 _ _ _ hn he hs _ fun ρ1 a1 w1 m1 m2 m3 m4 => hQ ρ1 a1 w1 m1 m2 m3 m4)⟩
    | exit j =>
      simp only at h1
      cases hj : Nat.beq j id with
      | true =>
        rw [hj] at h1
        have := Nat.eq_of_beq_eq_true hj
        subst this
        refine ⟨.normal, e1, H1, h1, fun ρ w a hn he hs Q hQ => wp_block (h2 _ _ _ hn he hs _ fun ρ1 a1 w1 m1 m2 m3 m4 => ?_)⟩
        simp only [Ex.to, Exit.inBlock, if_true]
        exact hQ ρ1 a1 w1 m1 m2 m3 m4
      | false =>
        rw [hj] at h1
        have hne : j ≠ id := fun e => by subst e; simp at hj
        refine ⟨.exit j, e1, H1, h1, fun ρ w a hn he hs Q hQ => wp_block (h2 _ _ _ hn he hs _ fun ρ1 a1 w1 m1 m2 m3 m4 => ?_)⟩
        simp only [Ex.to, Exit.inBlock, if_neg hne]
        exact hQ ρ1 a1 w1 m1 m2 m3 m4
  | loop x _ => exact fun hL e H k r h => hL x (by simp [loopsIn]) _ _ _ _ _ _ h
  | exit id => exact fun _ e H k r h => ⟨.exit id, e, H, h, fun ρ w a hn he hs Q hQ => wp_exit (hQ ρ a w hn he hs rfl)⟩
  | ret => exact fun _ e H k r h => ⟨.ret, e, H, h, fun ρ w a hn he hs Q hQ => wp_ret (hQ ρ a w hn he hs rfl)⟩
  | _ => exact fun _ e H k r h => by simp [evTop] at h
/-- what a body leaves, and that all stands as it was -/
theorem calls_at {P : Program} {f : FuncId} {fn : Func} {c : Code} {args : List Value} {H H' : AH} {e' : Env} {ex : Ex} {vs : List Value} {ρ : Map} {w : World} (hi : Inv ρ H w) (hf : P.funcs[f]? = some fn) (hb : fn.body = some c) (hl : args.length ≤ fn.ntmps)
    (h : BaseAt P ρ w H.next fn.ntmps H (enumE 0 args) H ex e' H' (fun Q a w => c.wp P Q a w)) (hex : ex = .normal ∨ ex = .ret) (hr : resE P e' H' fn.results.toList = some vs) (hfl : flat (oneOf vs) = true) :
    ∀ args', VRels ρ args args' → Calls P f ⟨args'⟩ w fun e w' => e = .returned (oneOf vs) ∧ RowKit.Below w.heap.size w w' := by
  intro args' ha
  have hlen := ha.length
  refine calls_of_wp hf hb ?_
  refine h ρ w _ (Next.refl hi) (enum_rel ha _) (by simp; omega) _ fun ρ' a' w' n1 n2 n3 n4 => ?_
  obtain ⟨v', r1, r2⟩ := results_run hr n1.inv n2
  have := r2.flat_eq hfl
  subst this
  have post : a'.defers = [] ∧ ∃ v, (results fn a'.tmps).run P w' = .ok v w' ∧ Ending.returned v = .returned (oneOf vs) ∧ RowKit.Below w.heap.size w w' :=
    ⟨n4, _, r1, rfl, n1.os, n1.tape, n1.output, n1.size, fun b hb => n1.keep b hb fun k o s hk hm => absurd (hi.wf k o hm) (by omega)⟩
  rcases hex with rfl | rfl
  · exact post
  · exact post
/-! ### One old object is listed for a while -/
section
variable {ρ0 : Map} {w0 : World} {j : Nat} {o0 : AObj} {s0 : Spot} {lo : Nat}
theorem inv_with (hi : Inv ρ0 ⟨lo, []⟩ w0) (hj : j < lo) (h1 : ρ0 j = some s0) (h2 : OHas ρ0 o0 s0 w0) : Inv ρ0 ⟨lo, [(j, o0)]⟩ w0 where
  dom := hi.dom
  wf := fun k o hm => by simp only [List.mem_cons, List.not_mem_nil, or_false] at hm; cases hm; exact hj
  one := fun k o o' a b => by simp only [List.mem_cons, List.not_mem_nil, or_false] at a b; cases a; cases b; rfl
  rel := ⟨fun k o hm => by simp only [List.mem_cons, List.not_mem_nil, or_false] at hm; cases hm; exact ⟨s0, h1, h2⟩, fun k o k' o' s s' a b _ _ _ => by simp only [List.mem_cons, List.not_mem_nil, or_false] at a b; cases a; cases b; rfl⟩
theorem next_with (hi : Inv ρ0 ⟨lo, []⟩ w0) (hj : j < lo) (h1 : ρ0 j = some s0) (h2 : OHas ρ0 o0 s0 w0) {ρ : Map} {N : Nat} {A : Objs} {w : World} (hn : Next lo ρ0 ⟨lo, []⟩ w0 ρ ⟨N, A⟩ w) : Next lo ρ0 ⟨lo, [(j, o0)]⟩ w0 ρ ⟨N, A ++ [(j, o0)]⟩ w := by
  have hA : ∀ k o, (k, o) ∈ A → lo ≤ k := fun k o hm => by
    rcases Nat.lt_or_ge k lo with h | h
    · exact absurd ((hn.old k o h).1 hm) (by simp)
    · exact h
  have hb0 : s0.b < w0.heap.size := h2.lt
  have hkeep : w.heap[s0.b]? = w0.heap[s0.b]? := hn.keep s0.b hb0 fun k o s _ hm => by simp at hm
  have hρ : ρ j = some s0 := by rw [hn.same j hj]; exact h1
  have hown : ∀ k o s, (k, o) ∈ A → ρ k = some s → w0.heap.size ≤ s.b := fun k o s hm hs => by
    rcases hn.own k o s (hA k o hm) hm hs with h | ⟨k', o', s', _, hm', _⟩
    · exact h
    · simp at hm'
  have hnx : lo ≤ N := hn.nx
  refine { inv := { dom := hn.inv.dom, wf := fun k o hm => ?_, one := fun k o o' a b => ?_, rel := ⟨fun k o hm => ?_, fun k o k' o' s s' a b c d q => ?_⟩ }, same := hn.same, nx := hn.nx, size := hn.size, os := hn.os, tape := hn.tape, output := hn.output, keep := fun b hb _ => hn.keep b hb (fun k o s _ hm => by simp at hm), own := fun k o s hk hm hs => ?_, old := fun k o hk => ⟨fun hm => ?_, fun hm => List.mem_append_right _ hm⟩ }
  · rcases List.mem_append.1 hm with hm | hm
    · exact hn.inv.wf k o hm
    · simp only [List.mem_cons, List.not_mem_nil, or_false] at hm
      cases hm
      exact Nat.lt_of_lt_of_le hj hnx
  · rcases List.mem_append.1 a with a | a <;> rcases List.mem_append.1 b with b | b
    · exact hn.inv.one k o o' a b
    · simp only [List.mem_cons, List.not_mem_nil, or_false] at b
      cases b
      have := hA _ _ a
      omega
    · simp only [List.mem_cons, List.not_mem_nil, or_false] at a
      cases a
      have := hA _ _ b
      omega
    · simp only [List.mem_cons, List.not_mem_nil, or_false] at a b
      cases a; cases b; rfl
  · rcases List.mem_append.1 hm with hm | hm
    · exact hn.inv.rel.obj k o hm
    · simp only [List.mem_cons, List.not_mem_nil, or_false] at hm
      cases hm
      exact ⟨s0, hρ, (h2.mono fun k p hk => hn.ext hi k p hk).heap hkeep⟩
  · rcases List.mem_append.1 a with a | a <;> rcases List.mem_append.1 b with b | b
    · exact hn.inv.rel.inj k o k' o' s s' a b c d q
    · simp only [List.mem_cons, List.not_mem_nil, or_false] at b
      cases b
      have := hown _ _ _ a c
      rw [hρ] at d
      cases d
      omega
    · simp only [List.mem_cons, List.not_mem_nil, or_false] at a
      cases a
      have := hown _ _ _ b d
      rw [hρ] at c
      cases c
      omega
    · simp only [List.mem_cons, List.not_mem_nil, or_false] at a b
      cases a; cases b; rfl
  · rcases List.mem_append.1 hm with hm | hm
    · exact .inl (hown k o s hm hs)
    · simp only [List.mem_cons, List.not_mem_nil, or_false] at hm
      cases hm
      omega
  · rcases List.mem_append.1 hm with hm | hm
    · have := hA k o hm
      omega
    · exact hm
theorem next_without (hj : j < lo) {ρ : Map} {N : Nat} {A : Objs} {w : World} (hA : geB lo A = true) (hn : Next lo ρ0 ⟨lo, [(j, o0)]⟩ w0 ρ ⟨N, A ++ [(j, o0)]⟩ w) : Next lo ρ0 ⟨lo, []⟩ w0 ρ ⟨N, A⟩ w where
  inv := hn.inv.sub (H := ⟨N, A ++ [(j, o0)]⟩) fun x hx => List.mem_append_left _ hx
  same := hn.same
  nx := hn.nx
  size := hn.size
  os := hn.os
  tape := hn.tape
  output := hn.output
  keep := fun b hb _ => hn.keep b hb fun k o s hk hm => by
    simp only [List.mem_cons, List.not_mem_nil, or_false] at hm
    cases hm
    omega
  own := fun k o s hk hm hs => by
    rcases hn.own k o s hk (List.mem_append_left _ hm) hs with h | ⟨k', o', s', hk', hm', _⟩
    · exact .inl h
    · simp only [List.mem_cons, List.not_mem_nil, or_false] at hm'
      cases hm'
      omega
  old := fun k o hk => ⟨fun hm => by have := geB_mem hA hm; omega, fun hm => by simp at hm⟩
theorem BaseOk.swap {P : Program} {sz : Nat} {e e' : Env} {ex : Ex} {N N' : Nat} {A A' : Objs} {W : (Exit → Act → World → Prop) → Act → World → Prop} (h : BaseOk P lo sz ⟨lo, [(j, o0)]⟩ e ⟨N, A ++ [(j, o0)]⟩ ex e' ⟨N', A' ++ [(j, o0)]⟩ W)
    (hi : Inv ρ0 ⟨lo, []⟩ w0) (hj : j < lo) (h1 : ρ0 j = some s0) (h2 : OHas ρ0 o0 s0 w0) (hA : geB lo A' = true) : BaseAt P ρ0 w0 lo sz ⟨lo, []⟩ e ⟨N, A⟩ ex e' ⟨N', A'⟩ W :=
  fun ρ w a hn he hs Q hQ => h ρ0 w0 ρ w a (inv_with hi hj h1 h2) (Nat.le_refl _) (next_with hi hj h1 h2 hn) he hs Q fun ρ' a' w' m1 m2 m3 m4 => hQ ρ' a' w' (next_without hj hA m1) m2 m3 m4
end
end Go.Vm
