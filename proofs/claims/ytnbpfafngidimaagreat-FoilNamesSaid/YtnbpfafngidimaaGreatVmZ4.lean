/- A call of ChartGroup returns true and leaves alone what was there; no conditions. A call of ChartThree returns true and leaves alone what was there; no conditions. -/
import Derived.Test.YtnbpfafngidimaaGreatVmP1
import Derived.Test.YtnbpfafngidimaaGreatVmZ1
import Derived.Test.YtnbpfafngidimaaGreatVmP9
import Derived.Test.YtnbpfafngidimaaGreatVmZ6
namespace Go.Vm
open Go.Proofs
set_option linter.unusedVariables false
set_option maxRecDepth 1000000

theorem zm_ok : Tryz.prog.follows .mixedOrders = true := by kernel_rfl
theorem h14 : Has Tryz.prog 14 := ⟨Tryz.f14, _, Tryz.func14, by kernel_rfl, rfl⟩
theorem h15 : Has Tryz.prog 15 := ⟨Tryz.f15, _, Tryz.func15, by kernel_rfl, rfl⟩
theorem h16 : Has Tryz.prog 16 := ⟨Tryz.f16, _, Tryz.func16, by kernel_rfl, rfl⟩
theorem h17 : Has Tryz.prog 17 := ⟨Tryz.f17, _, Tryz.func17, by kernel_rfl, rfl⟩
theorem h18 : Has Tryz.prog 18 := ⟨Tryz.f18, _, Tryz.func18, by kernel_rfl, rfl⟩
theorem h19 : Has Tryz.prog 19 := ⟨Tryz.f19, _, Tryz.func19, by kernel_rfl, rfl⟩
theorem h20 : Has Tryz.prog 20 := ⟨Tryz.f20, _, Tryz.func20, by kernel_rfl, rfl⟩
theorem h21 : Has Tryz.prog 21 := ⟨Tryz.f21, _, Tryz.func21, by kernel_rfl, rfl⟩
theorem h22 : Has Tryz.prog 22 := ⟨Tryz.f22, _, Tryz.func22, by kernel_rfl, rfl⟩
theorem h23 : Has Tryz.prog 23 := ⟨Tryz.f23, _, Tryz.func23, by kernel_rfl, rfl⟩
theorem h24 : Has Tryz.prog 24 := ⟨Tryz.f24, _, Tryz.func24, by kernel_rfl, rfl⟩
theorem h25 : Has Tryz.prog 25 := ⟨Tryz.f25, _, Tryz.func25, by kernel_rfl, rfl⟩
theorem h53 : Has Tryz.prog 53 := ⟨Tryz.f53, _, Tryz.func53, by kernel_rfl, rfl⟩
theorem h79 : Has Tryz.prog 79 := ⟨Tryz.f79, _, Tryz.func79, by kernel_rfl, rfl⟩
theorem h80 : Has Tryz.prog 80 := ⟨Tryz.f80, _, Tryz.func80, by kernel_rfl, rfl⟩
theorem h81 : Has Tryz.prog 81 := ⟨Tryz.f81, _, Tryz.func81, by kernel_rfl, rfl⟩
theorem h82 : Has Tryz.prog 82 := ⟨Tryz.f82, _, Tryz.func82, by kernel_rfl, rfl⟩
theorem h83 : Has Tryz.prog 83 := ⟨Tryz.f83, _, Tryz.func83, by kernel_rfl, rfl⟩
theorem h84 : Has Tryz.prog 84 := ⟨Tryz.f84, _, Tryz.func84, by kernel_rfl, rfl⟩
theorem h85 : Has Tryz.prog 85 := ⟨Tryz.f85, _, Tryz.func85, by kernel_rfl, rfl⟩
theorem h86 : Has Tryz.prog 86 := ⟨Tryz.f86, _, Tryz.func86, by kernel_rfl, rfl⟩
theorem h87 : Has Tryz.prog 87 := ⟨Tryz.f87, _, Tryz.func87, by kernel_rfl, rfl⟩
theorem h135 : Has Tryz.prog 135 := ⟨Tryz.f135, _, Tryz.func135, by kernel_rfl, rfl⟩

section shapes
variable {P : Program} {l : List (Nat × Sum)} {n : Nat} {f : FuncId}
theorem ok_sDet {g : KMC} (hm : P.follows .mixedOrders = true) (h : AllOk P l)
    (hg : ∀ (R : Type) (m : Mp) (k : Value → Option R), evFn (cx P l) n f [mv 1 m] k = g R m fun x y => k (.complex .f64 x y)) : SumOk P f (sDet g) :=
  sumOk_of hm h (n := n) fun R args k r hr => by
    unfold sDet at hr; split at hr
    · obtain ⟨i, m, rfl, hx⟩ := oneM_some hr
      cases hi : (i == 1) with
      | false => rw [hi] at hx; cases hx
      | true =>
        rw [hi] at hx
        have : i = 1 := by simpa using hi
        subst this
        exact ⟨rfl, by rw [hg]; exact hx⟩
    · cases hr
theorem ok_sMM {g : KMM} (hm : P.follows .mixedOrders = true) (h : AllOk P l)
    (hg : ∀ (R : Type) (m : Mp) (k : Value → Option R), evFn (cx P l) n f [mv 1 m] k = g R m (fun e => k (.tuple ⟨[mv 0 zm, .int .i64 e]⟩)) (fun m => k (.tuple ⟨[mv 1 m, .int .i64 0]⟩))) : SumOk P f (sMM g) :=
  sumOk_of hm h (n := n) fun R args k r hr => by
    unfold sMM at hr; split at hr
    · obtain ⟨i, m, rfl, hx⟩ := oneM_some hr
      cases hi : (i == 1) with
      | false => rw [hi] at hx; cases hx
      | true =>
        rw [hi] at hx
        have : i = 1 := by simpa using hi
        subst this
        exact ⟨rfl, by rw [hg]; exact hx⟩
    · cases hr
theorem ok_sMMM {g : KMMM} (hm : P.follows .mixedOrders = true) (h : AllOk P l)
    (hg : ∀ (R : Type) (m u : Mp) (k : Value → Option R), evFn (cx P l) n f [mv 1 m, mv 1 u] k = g R m u (fun e => k (.tuple ⟨[mv 0 zm, .int .i64 e]⟩)) (fun m => k (.tuple ⟨[mv 1 m, .int .i64 0]⟩))) : SumOk P f (sMMM g) :=
  sumOk_of hm h (n := n) fun R args k r hr => by
    unfold sMMM at hr; split at hr
    · obtain ⟨i, m, rfl, hx⟩ := oneM_some hr
      obtain ⟨j, u, rfl, hy⟩ := oneM_some hx
      cases hi : (i == 1 && j == 1) with
      | false => rw [hi] at hy; cases hy
      | true =>
        rw [hi] at hy
        obtain ⟨rfl, rfl⟩ : i = 1 ∧ j = 1 := by simpa using hi
        exact ⟨rfl, by rw [hg]; exact hy⟩
    · cases hr
theorem ok_sMMB {g : KMMB} (hm : P.follows .mixedOrders = true) (h : AllOk P l)
    (hg : ∀ (R : Type) (m u : Mp) (k : Value → Option R), evFn (cx P l) n f [mv 1 m, mv 1 u] k = g R m u fun t => k (.bool t)) : SumOk P f (sMMB g) :=
  sumOk_of hm h (n := n) fun R args k r hr => by
    unfold sMMB at hr; split at hr
    · obtain ⟨i, m, rfl, hx⟩ := oneM_some hr
      obtain ⟨j, u, rfl, hy⟩ := oneM_some hx
      cases hi : (i == 1 && j == 1) with
      | false => rw [hi] at hy; cases hy
      | true =>
        rw [hi] at hy
        obtain ⟨rfl, rfl⟩ : i = 1 ∧ j = 1 := by simpa using hi
        exact ⟨rfl, by rw [hg]; simpa only [forceB_eq, cond_true] using hy⟩
    · cases hr
theorem ok_sChk {g1 g2 : KMI} (hm : P.follows .mixedOrders = true) (h : AllOk P l)
    (hg1 : ∀ (R : Type) (m : Mp) (k : Value → Option R), evFn (cx P l) n f [mv 1 m] k = g1 R m fun e => k (.int .i64 e))
    (hg2 : ∀ (R : Type) (m : Mp) (k : Value → Option R), evFn (cx P l) n f [mv 2 m] k = g2 R m fun e => k (.int .i64 e)) : SumOk P f (sChk g1 g2) :=
  sumOk_of hm h (n := n) fun R args k r hr => by
    unfold sChk at hr; split at hr
    · obtain ⟨i, m, rfl, hx⟩ := oneM_some hr
      cases hi : (i == 1) with
      | true =>
        rw [hi] at hx
        have : i = 1 := by simpa using hi
        subst this
        exact ⟨rfl, by rw [hg1]; exact hx⟩
      | false =>
        rw [hi] at hx
        simp only [cond_false] at hx
        cases hj : (i == 2) with
        | false => rw [hj] at hx; cases hx
        | true =>
          rw [hj] at hx
          have : i = 2 := by simpa using hj
          subst this
          exact ⟨rfl, by rw [hg2]; exact hx⟩
    · cases hr
theorem ok_sC4 {g : KC4} (hm : P.follows .mixedOrders = true) (h : AllOk P l)
    (hg : ∀ (R : Type) a b c d a' b' c' d' (k : Value → Option R), evFn (cx P l) n f [.complex .f64 a b, .complex .f64 c d, .complex .f64 a' b', .complex .f64 c' d'] k = g R a b c d a' b' c' d' fun x y => k (.complex .f64 x y)) : SumOk P f (sC4 g) :=
  sumOk_of hm h (n := n) fun R args k r hr => by
    unfold sC4 at hr; split at hr
    · exact ⟨rfl, by rw [hg]; exact hr⟩
    · cases hr
theorem ok_sUp {g : KGB} (hm : P.follows .mixedOrders = true) (h : AllOk P l)
    (hg : ∀ (R : Type) x y (k : Value → Option R), evFn (cx P l) n f [.agg ⟨[.int .i16 x, .int .i16 y]⟩, .int .i16 8] k = g R x y fun t => k (.bool t)) : SumOk P f (sUp g) :=
  sumOk_of hm h (n := n) fun R args k r hr => by
    unfold sUp at hr; split at hr
    · rename_i x y to
      cases hi : (to == 8) with
      | false => rw [hi] at hr; cases hr
      | true =>
        rw [hi] at hr
        have : to = 8 := by simpa using hi
        subst this
        exact ⟨rfl, by rw [hg]; simpa only [forceB_eq, cond_true] using hr⟩
    · cases hr
theorem ok_sOf {g : KGC} (hm : P.follows .mixedOrders = true) (h : AllOk P l)
    (hg : ∀ (R : Type) x y (k : Value → Option R), evFn (cx P l) n f [.agg ⟨[.int .i16 x, .int .i16 y]⟩] k = g R x y fun a b => k (.complex .f64 a b)) : SumOk P f (sOf g) :=
  sumOk_of hm h (n := n) fun R args k r hr => by
    unfold sOf at hr; split at hr
    · exact ⟨rfl, by rw [hg]; exact hr⟩
    · cases hr
theorem ok_sFrM {g : KFrM} (hm : P.follows .mixedOrders = true) (h : AllOk P l)
    (hg : ∀ (R : Type) (q : Fr) (k : Value → Option R), evFn (cx P l) n f [fv q] k = g R q fun m => k (mv 1 m)) : SumOk P f (sFrM g) :=
  sumOk_of hm h (n := n) fun R args k r hr => by
    unfold sFrM at hr; split at hr
    · obtain ⟨q, rfl, hx⟩ := oneF_some hr
      exact ⟨rfl, by rw [hg]; exact hx⟩
    · cases hr
theorem ok_sFrB {g : KFrB} (hm : P.follows .mixedOrders = true) (h : AllOk P l)
    (hg : ∀ (R : Type) (q : Fr) (k : Value → Option R), evFn (cx P l) n f [fv q] k = g R q fun t => k (.bool t)) : SumOk P f (sFrB g) :=
  sumOk_of hm h (n := n) fun R args k r hr => by
    unfold sFrB at hr; split at hr
    · obtain ⟨q, rfl, hx⟩ := oneF_some hr
      exact ⟨rfl, by rw [hg]; simpa only [forceB_eq] using hx⟩
    · cases hr
theorem ok_sTrue (hm : P.follows .mixedOrders = true) (h : AllOk P l)
    (hg : ∀ (R : Type) (k : Value → Option R), evFn (cx P l) n f [] k = k (.bool true)) : SumOk P f sTrue :=
  sumOk_of hm h (n := n) fun R args k r hr => by
    unfold sTrue at hr; split at hr
    · exact ⟨rfl, by rw [hg]; exact hr⟩
    · cases hr
end shapes

theorem k21 : SumOk Tryz.prog 21 (sCCC subK) := ok_sCCC zm_ok .nil z_sub
theorem k22 : SumOk Tryz.prog 22 (sCCC mulK) := ok_sCCC zm_ok .nil z_mul
theorem k84 : SumOk Tryz.prog 84 (sCCC addK) := ok_sCCC zm_ok .nil z_add
theorem k86 : SumOk Tryz.prog 86 (sCC negK) := ok_sCC zm_ok .nil z_neg
theorem k87 : SumOk Tryz.prog 87 (sFFB likeK) := ok_sFFB zm_ok .nil z_like
theorem k23 : SumOk Tryz.prog 23 (sCCB LikeK) := ok_sCCB zm_ok (.cons k87 h87 .nil) (z_Like _)
theorem k81 : SumOk Tryz.prog 81 (sCB noughtK) := ok_sCB zm_ok .nil z_nought
theorem k53 : SumOk Tryz.prog 53 (sFF absK) := ok_sFF zm_ok .nil z_abs
theorem k80 : SumOk Tryz.prog 80 (sFFB withinK) := ok_sFFB zm_ok (.cons k53 h53 .nil) (z_within _)
theorem k135 : SumOk Tryz.prog 135 (sCFB WithinK) := ok_sCFB zm_ok (.cons k80 h80 .nil) (z_Within _)
theorem k79 : SumOk Tryz.prog 79 (sCB placeK) := ok_sCB zm_ok (.cons k135 h135 .nil) (z_place _)
theorem k24 : SumOk Tryz.prog 24 (sUp upG) := ok_sUp zm_ok .nil z_up
theorem k25 : SumOk Tryz.prog 25 (sOf ofG) := ok_sOf zm_ok .nil z_of
theorem k16 : SumOk Tryz.prog 16 (sFrB smallK) := ok_sFrB zm_ok (.cons k24 h24 .nil) (z_small _)
theorem k15 : SumOk Tryz.prog 15 (sFrM frK) := ok_sFrM zm_ok (.cons k25 h25 .nil) (z_fr _)
theorem k82 : SumOk Tryz.prog 82 (sDet detK) := ok_sDet zm_ok (.cons k22 h22 (.cons k21 h21 .nil)) (z_det _ _)
theorem k83 : SumOk Tryz.prog 83 (sC4 bothK) := ok_sC4 zm_ok (.cons k22 h22 (.cons k84 h84 .nil)) (z_both _ _)
def chk2K : KMI := chk2B placeK noughtK withinK
theorem k17 : SumOk Tryz.prog 17 (sChk chkK chk2K) := ok_sChk zm_ok (.cons k79 h79 (.cons k81 h81 (.cons k80 h80 (.cons k82 h82 .nil)))) (z_chk1 _ _ _ _) (z_chk2 _ _ _ _)
theorem k85 : SumOk Tryz.prog 85 (sMM toldK) := ok_sMM zm_ok (.cons k17 h17 .nil) (z_told _ _)
theorem k20 : SumOk Tryz.prog 20 (sMM turnedK) := ok_sMM zm_ok (.cons k17 h17 (.cons k86 h86 (.cons k85 h85 .nil))) (z_turned _ _ _ _)
theorem k19 : SumOk Tryz.prog 19 (sMMB alikeK) := ok_sMMB zm_ok (.cons k23 h23 .nil) (z_alike _)
theorem k18 : SumOk Tryz.prog 18 (sMMM thenK) := ok_sMMM zm_ok (.cons k17 h17 (.cons k83 h83 (.cons k85 h85 .nil))) (z_then _ _ _ _)
theorem z_awake (R : Type) (k : Value → Option R) : evFn (cx Tryz.prog []) 1000 14 [] k = k (.bool true) := by kernel_rfl
theorem k14 : SumOk Tryz.prog 14 sTrue := ok_sTrue zm_ok .nil z_awake

theorem group_calls (f g h : Fr) (w : World) : Calls Tryz.prog 3 ⟨[fv f, fv g, fv h]⟩ w fun e w' => e = .returned (.bool true) ∧ RowKit.Below w.heap.size w w' := by
  have hall : AllOk Tryz.prog [(14, sTrue), (15, sFrM frK), (16, sFrB smallK), (17, sChk chkK chk2K), (18, sMMM thenK), (19, sMMB alikeK), (20, sMM turnedK), (21, sCCC subK), (22, sCCC mulK), (23, sCCB LikeK)] :=
    .cons k14 h14 (.cons k15 h15 (.cons k16 h16 (.cons k17 h17 (.cons k18 h18 (.cons k19 h19 (.cons k20 h20 (.cons k21 h21 (.cons k22 h22 (.cons k23 h23 .nil)))))))))
  have e : evFn (cx Tryz.prog [(14, sTrue), (15, sFrM frK), (16, sFrB smallK), (17, sChk chkK chk2K), (18, sMMM thenK), (19, sMMB alikeK), (20, sMM turnedK), (21, sCCC subK), (22, sCCC mulK), (23, sCCB LikeK)]) 40 3 [fv f, fv g, fv h] (fun v => match v with | .bool true => some () | _ => none) = some () := by
    rw [z_group]
    exact groupK_true f g h _
  obtain ⟨v, h1, _, h2⟩ := evFn_sound (cx_ok hall) zm_ok e rfl
  have : v = .bool true := by
    split at h1
    · rfl
    · cases h1
  subst this
  exact h2 w
end Go.Vm
namespace Go.Vm
open Go.Proofs
set_option linter.unusedVariables false
set_option maxRecDepth 1000000

theorem SumOk.weak {P : Program} {f : FuncId} {s1 s2 : Sum} (h : SumOk P f s1)
    (H : ∀ (R : Type) (args : List Value) (k : Value → Option R) (r : R), s2 R args k = some r → ∃ k', s1 R args k' = some r ∧ ∀ v, k' v = some r → k v = some r) : SumOk P f s2 := by
  intro R args k r hr
  obtain ⟨k', h1, h2⟩ := H R args k r hr
  obtain ⟨h3, v, h4, h5, h6⟩ := h R args k' r h1
  exact ⟨h3, v, h2 v h4, h5, h6⟩

theorem ok_sNever {P : Program} {f : FuncId} : SumOk P f sNever := fun R args k r hr => by cases hr

theorem cxe_ok {P : Program} {l es : List (Nat × Sum)} (h : AllOk P l) (he : ∀ f g, tab es f = some g → ExtOk P f g) : (cxf fiReal P l es).Ok where
  fair := fiReal_fair
  sums := fun f g hg => tab_ok h f g hg
  exts := he
  meths := fun t s f hf => by cases hf
  nan1 := fun f hf => by cases hf
  hs := fun f args H v h => by cases h

theorem sumOk_exts {P : Program} {l es : List (Nat × Sum)} (hm : P.follows .mixedOrders = true) (h : AllOk P l) (he : ∀ f g, tab es f = some g → ExtOk P f g) {n : Nat} {f : FuncId} {g : Sum}
    (hg : ∀ (R : Type) (args : List Value) (k : Value → Option R) (r : R), g R args k = some r → inns 0 args = true ∧ evFn (cxf fiReal P l es) n f args k = some r) : SumOk P f g := by
  intro R args k r h1
  obtain ⟨h2, h3⟩ := hg R args k r h1
  exact ⟨h2, evFn_sound (cxe_ok h he) hm h3 h2⟩

section shapes
variable {P : Program} {l : List (Nat × Sum)} {n : Nat} {f : FuncId}
theorem ok_sInf {g : KFB} (hm : P.follows .mixedOrders = true) (h : AllOk P l)
    (hg : ∀ (R : Type) a (k : Value → Option R), evFn (cx P l) n f [.float .f64 a, .int .i64 0] k = g R a fun t => k (.bool t)) : SumOk P f (sInf g) :=
  sumOk_of hm h (n := n) fun R args k r hr => by
    unfold sInf at hr; split at hr
    · rename_i a s
      cases hi : (s == 0) with
      | false => rw [hi] at hr; cases hr
      | true =>
        rw [hi] at hr
        have : s = 0 := by simpa using hi
        subst this
        exact ⟨rfl, by rw [hg]; simpa only [forceB_eq, cond_true] using hr⟩
    · cases hr
theorem ok_sFFI {g : KFFI} (hm : P.follows .mixedOrders = true) (h : AllOk P l)
    (hg : ∀ (R : Type) a (k : Value → Option R), evFn (cx P l) n f [.float .f64 a] k = g R a fun x e => k (.tuple ⟨[.float .f64 x, .int .i64 e]⟩)) : SumOk P f (sFFI g) :=
  sumOk_of hm h (n := n) fun R args k r hr => by
    unfold sFFI at hr; split at hr
    · exact ⟨rfl, by rw [hg]; exact hr⟩
    · cases hr
theorem ok_sFIF {g : KFIF} (hm : P.follows .mixedOrders = true) (h : AllOk P l)
    (hg : ∀ (R : Type) a e (k : Value → Option R), evFn (cx P l) n f [.float .f64 a, .int .i64 e] k = g R a e fun x => k (.float .f64 x)) : SumOk P f (sFIF g) :=
  sumOk_of hm h (n := n) fun R args k r hr => by
    unfold sFIF at hr; split at hr
    · exact ⟨rfl, by rw [hg]; exact hr⟩
    · cases hr
theorem ok_sFFF {g : KFFF} (hm : P.follows .mixedOrders = true) (h : AllOk P l)
    (hg : ∀ (R : Type) a b (k : Value → Option R), evFn (cx P l) n f [.float .f64 a, .float .f64 b] k = g R a b fun x => k (.float .f64 x)) : SumOk P f (sFFF g) :=
  sumOk_of hm h (n := n) fun R args k r hr => by
    unfold sFFF at hr; split at hr
    · exact ⟨rfl, by rw [hg]; exact hr⟩
    · cases hr
theorem ok_sCF {g : KCF} (hm : P.follows .mixedOrders = true) (h : AllOk P l)
    (hg : ∀ (R : Type) a b (k : Value → Option R), evFn (cx P l) n f [.complex .f64 a b] k = g R a b fun x => k (.float .f64 x)) : SumOk P f (sCF g) :=
  sumOk_of hm h (n := n) fun R args k r hr => by
    unfold sCF at hr; split at hr
    · exact ⟨rfl, by rw [hg]; exact hr⟩
    · cases hr
theorem ok_sCCI {g : KCCI} (hm : P.follows .mixedOrders = true) (h : AllOk P l)
    (hg : ∀ (R : Type) a b (k : Value → Option R), evFn (cx P l) n f [.complex .f64 a b] k = g R a b fun x y e => k (.tuple ⟨[.complex .f64 x y, .int .i64 e]⟩)) : SumOk P f (sCCI g) :=
  sumOk_of hm h (n := n) fun R args k r hr => by
    unfold sCCI at hr; split at hr
    · exact ⟨rfl, by rw [hg]; exact hr⟩
    · cases hr
theorem ok_sCCFB {g : KCCFB} (hm : P.follows .mixedOrders = true) (h : AllOk P l)
    (hg : ∀ (R : Type) a b c d m (k : Value → Option R), evFn (cx P l) n f [.complex .f64 a b, .complex .f64 c d, .float .f64 m] k = g R a b c d m fun t => k (.bool t)) : SumOk P f (sCCFB g) :=
  sumOk_of hm h (n := n) fun R args k r hr => by
    unfold sCCFB at hr; split at hr
    · exact ⟨rfl, by rw [hg]; simpa only [forceB_eq] using hr⟩
    · cases hr
theorem ok_sTB {g : KTB} (hm : P.follows .mixedOrders = true) (h : AllOk P l)
    (hg : ∀ (R : Type) t (k : Value → Option R), evFn (cx P l) n f [tv t] k = g R t fun t => k (.bool t)) : SumOk P f (sTB g) :=
  sumOk_of hm h (n := n) fun R args k r hr => by
    unfold sTB at hr; split at hr
    · obtain ⟨t, rfl, hx⟩ := oneT_some hr
      exact ⟨rfl, by rw [hg]; simpa only [forceB_eq] using hx⟩
    · cases hr
theorem ok_sTM {g : KTM} (hm : P.follows .mixedOrders = true) (h : AllOk P l)
    (hg : ∀ (R : Type) t (k : Value → Option R), evFn (cx P l) n f [tv t] k = g R t (mErr k) (mOk k)) : SumOk P f (sTM g) :=
  sumOk_of hm h (n := n) fun R args k r hr => by
    unfold sTM at hr; split at hr
    · obtain ⟨t, rfl, hx⟩ := oneT_some hr
      exact ⟨rfl, by rw [hg]; exact hx⟩
    · cases hr
theorem ok_sMZC {g : KMZC} (hm : P.follows .mixedOrders = true) (h : AllOk P l)
    (hg : ∀ (R : Type) (m : Mp) a b (k : Value → Option R), evFn (cx P l) n f [mv 1 m, .complex .f64 a b] k = g R m a b fun x y => k (.complex .f64 x y)) : SumOk P f (sMZC g) :=
  sumOk_of hm h (n := n) fun R args k r hr => by
    unfold sMZC at hr; split at hr
    · obtain ⟨i, m, rfl, hx⟩ := oneM_some hr
      cases hi : (i == 1) with
      | false => rw [hi] at hx; cases hx
      | true =>
        rw [hi] at hx
        have : i = 1 := by simpa using hi
        subst this
        exact ⟨rfl, by rw [hg]; exact hx⟩
    · cases hr

/-- the plain shapes, with any error -/
def sTTMp (g : KTTM) : Sum := fun R args k => match args with
  | [v, u] => oneT v fun l => oneT u fun n => g R l n (fun e => k (.tuple ⟨[mv 0 zm, .int .i64 e]⟩)) (mOk k)
  | _ => none
def sMZp (g : KMZ) : Sum := fun R args k => match args with
  | [v, .complex .f64 a b] => oneM v fun i m => bif i == 1 then g R m a b (fun e => k (.tuple ⟨[.complex .f64 0 0, .int .i64 e]⟩)) (zOk k) else none
  | _ => none
theorem ok_sTTMp {g : KTTM} (hm : P.follows .mixedOrders = true) (h : AllOk P l)
    (hg : ∀ (R : Type) t u (k : Value → Option R), evFn (cx P l) n f [tv t, tv u] k = g R t u (fun e => k (.tuple ⟨[mv 0 zm, .int .i64 e]⟩)) (mOk k)) : SumOk P f (sTTMp g) :=
  sumOk_of hm h (n := n) fun R args k r hr => by
    unfold sTTMp at hr; split at hr
    · obtain ⟨t, rfl, hx⟩ := oneT_some hr
      obtain ⟨u, rfl, hy⟩ := oneT_some hx
      exact ⟨rfl, by rw [hg]; exact hy⟩
    · cases hr
theorem ok_sMZp {g : KMZ} (hm : P.follows .mixedOrders = true) (h : AllOk P l)
    (hg : ∀ (R : Type) (m : Mp) a b (k : Value → Option R), evFn (cx P l) n f [mv 1 m, .complex .f64 a b] k = g R m a b (fun e => k (.tuple ⟨[.complex .f64 0 0, .int .i64 e]⟩)) (zOk k)) : SumOk P f (sMZp g) :=
  sumOk_of hm h (n := n) fun R args k r hr => by
    unfold sMZp at hr; split at hr
    · obtain ⟨i, m, rfl, hx⟩ := oneM_some hr
      cases hi : (i == 1) with
      | false => rw [hi] at hx; cases hx
      | true =>
        rw [hi] at hx
        have : i = 1 := by simpa using hi
        subst this
        exact ⟨rfl, by rw [hg]; exact hx⟩
    · cases hr

def tellM {R : Type} (k : Value → Option R) (v : Value) : Option R := match v with
  | .tuple ⟨[.agg ⟨[.int .u8 0, .complex .f64 0 0, .complex .f64 0 0, .complex .f64 0 0, .complex .f64 0 0, .float .f64 0]⟩, .int .i64 e]⟩ => mErr k e
  | v => k v
theorem tellM_some {R : Type} {k : Value → Option R} {v : Value} {r : R} (h : tellM k v = some r) : k v = some r := by
  unfold tellM at h
  split at h
  · exact errIn_some h
  · exact h
theorem sMM2_of {g : KMM} (h : SumOk P f (sMM g)) : SumOk P f (sMM2 g) := h.weak fun R args k r hr => by
  refine ⟨tellM k, ?_, fun v hv => tellM_some hv⟩
  unfold sMM2 at hr; split at hr
  · exact hr
  · cases hr
theorem sMMM2_of {g : KMMM} (h : SumOk P f (sMMM g)) : SumOk P f (sMMM2 g) := h.weak fun R args k r hr => by
  refine ⟨tellM k, ?_, fun v hv => tellM_some hv⟩
  unfold sMMM2 at hr; split at hr
  · exact hr
  · cases hr
theorem sTTM_of {g : KTTM} (h : SumOk P f (sTTMp g)) : SumOk P f (sTTM g) := h.weak fun R args k r hr => by
  refine ⟨tellM k, ?_, fun v hv => tellM_some hv⟩
  unfold sTTM at hr; split at hr
  · exact hr
  · cases hr
end shapes

theorem chk1_told (pl no : KCB) (wi : KFFB) (det : KMC) (R : Type) (m : Mp) (F : Int → Option R) : chk1B pl no wi det R m F = chk1B pl no wi det R m (fun e => errIn [0, 5, 180] e F) := by kernel_rfl
theorem zErr_5 {R : Type} (k : Value → Option R) : zErr k 5 = k (.tuple ⟨[.complex .f64 0 0, .int .i64 5]⟩) := rfl
theorem zErr_6 {R : Type} (k : Value → Option R) : zErr k 6 = k (.tuple ⟨[.complex .f64 0 0, .int .i64 6]⟩) := rfl
theorem zErr_180 {R : Type} (k : Value → Option R) : zErr k 180 = k (.tuple ⟨[.complex .f64 0 0, .int .i64 180]⟩) := rfl
theorem moeb_told (un : KMZC) (no : KCB) (mul add div : KCCC) (R : Type) (m : Mp) (a b : Nat) (k : Value → Option R) (kk : Nat → Nat → Option R) :
    moebB un no mul add div R m a b (zErr k) kk = moebB un no mul add div R m a b (fun e => k (.tuple ⟨[.complex .f64 0 0, .int .i64 e]⟩)) kk := by kernel_rfl
theorem errIn_z {R : Type} (k : Value → Option R) (e : Int) : errIn [5, 6, 180] e (zErr k) = errIn [5, 6, 180] e (fun e => k (.tuple ⟨[.complex .f64 0 0, .int .i64 e]⟩)) := rfl
theorem at_told {chk : KMI} (pl : KCB) (mo : KMZ) (fin : KCB) (hc : ∀ (R : Type) (m : Mp) (F : Int → Option R), chk R m F = chk R m (fun e => errIn [0, 5, 180] e F))
    (R : Type) (m : Mp) (a b : Nat) (k : Value → Option R) (kk : Nat → Nat → Option R) :
    atB chk pl mo fin R m a b (zErr k) kk = atB chk pl mo fin R m a b (fun e => k (.tuple ⟨[.complex .f64 0 0, .int .i64 e]⟩)) kk := by
  unfold atB
  rw [hc]
  refine Eq.trans ?_ (hc R m _).symm
  congr 1

theorem h112 : Has Tryz.prog 112 := ⟨Tryz.f112, _, Tryz.func112, by kernel_rfl, rfl⟩
theorem h114 : Has Tryz.prog 114 := ⟨Tryz.f114, _, Tryz.func114, by kernel_rfl, rfl⟩
theorem h275 : Has Tryz.prog 275 := ⟨Tryz.f275, _, Tryz.func275, by kernel_rfl, rfl⟩
theorem h260 : Has Tryz.prog 260 := ⟨Tryz.f260, _, Tryz.func260, by kernel_rfl, rfl⟩
theorem h229 : Has Tryz.prog 229 := ⟨Tryz.f229, _, Tryz.func229, by kernel_rfl, rfl⟩
theorem h200 : Has Tryz.prog 200 := ⟨Tryz.f200, _, Tryz.func200, by kernel_rfl, rfl⟩
theorem h77 : Has Tryz.prog 77 := ⟨Tryz.f77, _, Tryz.func77, by kernel_rfl, rfl⟩
theorem h247 : Has Tryz.prog 247 := ⟨Tryz.f247, _, Tryz.func247, by kernel_rfl, rfl⟩
theorem h201 : Has Tryz.prog 201 := ⟨Tryz.f201, _, Tryz.func201, by kernel_rfl, rfl⟩
theorem h117 : Has Tryz.prog 117 := ⟨Tryz.f117, _, Tryz.func117, by kernel_rfl, rfl⟩
theorem h115 : Has Tryz.prog 115 := ⟨Tryz.f115, _, Tryz.func115, by kernel_rfl, rfl⟩
theorem h116 : Has Tryz.prog 116 := ⟨Tryz.f116, _, Tryz.func116, by kernel_rfl, rfl⟩
theorem h119 : Has Tryz.prog 119 := ⟨Tryz.f119, _, Tryz.func119, by kernel_rfl, rfl⟩
theorem h118 : Has Tryz.prog 118 := ⟨Tryz.f118, _, Tryz.func118, by kernel_rfl, rfl⟩
theorem h38 : Has Tryz.prog 38 := ⟨Tryz.f38, _, Tryz.func38, by kernel_rfl, rfl⟩
theorem h28 : Has Tryz.prog 28 := ⟨Tryz.f28, _, Tryz.func28, by kernel_rfl, rfl⟩
theorem h141 : Has Tryz.prog 141 := ⟨Tryz.f141, _, Tryz.func141, by kernel_rfl, rfl⟩
theorem h93 : Has Tryz.prog 93 := ⟨Tryz.f93, _, Tryz.func93, by kernel_rfl, rfl⟩
theorem h179 : Has Tryz.prog 179 := ⟨Tryz.f179, _, Tryz.func179, by kernel_rfl, rfl⟩
theorem h180 : Has Tryz.prog 180 := ⟨Tryz.f180, _, Tryz.func180, by kernel_rfl, rfl⟩
theorem h89 : Has Tryz.prog 89 := ⟨Tryz.f89, _, Tryz.func89, by kernel_rfl, rfl⟩
theorem h26 : Has Tryz.prog 26 := ⟨Tryz.f26, _, Tryz.func26, by kernel_rfl, rfl⟩
theorem h102 : Has Tryz.prog 102 := ⟨Tryz.f102, _, Tryz.func102, by kernel_rfl, rfl⟩
theorem h103 : Has Tryz.prog 103 := ⟨Tryz.f103, _, Tryz.func103, by kernel_rfl, rfl⟩
theorem h29 : Has Tryz.prog 29 := ⟨Tryz.f29, _, Tryz.func29, by kernel_rfl, rfl⟩
theorem h113 : Has Tryz.prog 113 := ⟨Tryz.f113, _, Tryz.func113, by kernel_rfl, rfl⟩
theorem h55 : Has Tryz.prog 55 := ⟨Tryz.f55, _, Tryz.func55, by kernel_rfl, rfl⟩

theorem k112 : SumOk Tryz.prog 112 (sInf isInfK) := ok_sInf zm_ok (.cons k53 h53 .nil) (z_isInf _)
theorem k114 : SumOk Tryz.prog 114 (sFB isNanK) := ok_sFB zm_ok .nil z_isNan
theorem k275 : SumOk Tryz.prog 275 (sFFI normK) := ok_sFFI zm_ok (.cons k53 h53 .nil) (z_norm _)
theorem k260 : SumOk Tryz.prog 260 (sFFI frexpK) := ok_sFFI zm_ok (.cons k112 h112 (.cons k114 h114 (.cons k275 h275 .nil))) (z_frexp fiReal _ _ _)
theorem k229 : SumOk Tryz.prog 229 (sFFI frexpK) := ok_sFFI zm_ok (.cons k260 h260 .nil) (z_Frexp _)
theorem k200 : SumOk Tryz.prog 200 (sFFI frexpK) := ok_sFFI zm_ok (.cons k229 h229 .nil) (z_Parts _)
theorem k77 : SumOk Tryz.prog 77 (sFFF copyK) := ok_sFFF zm_ok .nil z_copy
theorem k113 : SumOk Tryz.prog 113 sNever := ok_sNever
theorem k55 : SumOk Tryz.prog 55 sNever := ok_sNever
theorem k247 : SumOk Tryz.prog 247 (sFIF ldexpK) := ok_sFIF zm_ok (.cons k112 h112 (.cons k114 h114 (.cons k275 h275 (.cons k77 h77 (.cons k113 h113 .nil))))) (z_ldexp fiReal _ _ _ _)
theorem k201 : SumOk Tryz.prog 201 (sFIF ldexpK) := ok_sFIF zm_ok (.cons k247 h247 .nil) (z_Ldexp _)
theorem k117 : SumOk Tryz.prog 117 (sFIF scaleK) := ok_sFIF zm_ok (.cons k201 h201 .nil) (z_scale _)
theorem k115 : SumOk Tryz.prog 115 (sCF greatestK) := ok_sCF zm_ok (.cons k53 h53 .nil) (z_greatest _)
theorem k116 : SumOk Tryz.prog 116 (sCCI scaledK) := ok_sCCI zm_ok (.cons k115 h115 (.cons k200 h200 (.cons k117 h117 .nil))) (z_scaled _ _ _)
theorem k119 : SumOk Tryz.prog 119 (sCF squareK) := ok_sCF zm_ok .nil z_square

/-! ### math.Sqrt: its body calls what has no body -/
theorem z_sqrt (rt : KFF) (R : Type) a (k : Value → Option R) : evFn (cxf fiReal Tryz.prog [] [(202, sFF rt)]) 20 118 [.float .f64 a] k = rt R a fun x => k (.float .f64 x) := by kernel_rfl
theorem run_202 (a r : Nat) (h : Ieee.double.sqrt a = some r) (w : World) : (callFunc 202 #[.float .f64 a]).run Tryz.prog w = .ok (.value (.float .f64 r)) w := by
  have h1 : Tryz.prog.funcs[202]? = some Tryz.f202 := Tryz.func202
  have h2 : (Tryz.f202.name == "runtime.NumGoroutine") = false := by kernel_rfl
  have h3 : Tryz.f202.body.isNone = true := by kernel_rfl
  have h4 : Extern.find Tryz.f202 = some Extern.MathSqrt.sqrt := by kernel_rfl
  have h5 : (Extern.findNext Tryz.f202).isNone = true := by kernel_rfl
  have h5' : Extern.findNext Tryz.f202 = none := by simpa using h5
  have h6 : Extern.MathSqrt.sqrt #[.float .f64 a] = pure (.float .f64 r) := by
    show (match Ieee.double.sqrt a with | some r => _ | none => _) = _
    rw [h]
  unfold callFunc
  have h2' : Tryz.f202.name ≠ "runtime.NumGoroutine" := by simpa using h2
  have h3' : Tryz.f202.body = none := by simpa using h3
  simp [Sem.run_bind, h1, h2', h3', h4, h5', h6]
theorem e202 : ExtOk Tryz.prog 202 (sFF sqrtK) := by
  intro R args k r hr
  unfold sFF at hr; split at hr
  · rename_i a
    unfold sqrtK at hr
    cases hs : Ieee.double.sqrt a with
    | none => rw [hs] at hr; cases hr
    | some x =>
      rw [bindF_eq hs] at hr
      exact ⟨rfl, _, hr, rfl, fun w => run_202 a x hs w⟩
  · cases hr
theorem k118 : SumOk Tryz.prog 118 (sFF sqrtK) := sumOk_exts (l := []) (es := [(202, sFF sqrtK)]) (n := 20) zm_ok .nil
  (fun f g h => by
    unfold tab at h
    cases hb : Nat.beq 202 f with
    | true =>
      rw [hb] at h; cases h
      rw [← Nat.eq_of_beq_eq_true hb]; exact e202
    | false => rw [hb] at h; cases h)
  fun R args k r hr => by
    unfold sFF at hr; split at hr
    · exact ⟨rfl, by rw [z_sqrt]; exact hr⟩
    · cases hr
theorem k38 : SumOk Tryz.prog 38 (sCF lengthK) :=
  ok_sCF zm_ok (.cons k112 h112 (.cons k114 h114 (.cons k115 h115 (.cons k116 h116 (.cons k119 h119 (.cons k118 h118 (.cons k117 h117 (.cons k113 h113 (.cons k55 h55 .nil))))))))) (z_length _ _ _ _ _ _ _)
theorem k28 : SumOk Tryz.prog 28 (sCCFB nearK) := ok_sCCFB zm_ok (.cons k21 h21 (.cons k38 h38 .nil)) (z_near _ _)
theorem k141 : SumOk Tryz.prog 141 (sFB finiteK) := ok_sFB zm_ok (.cons k53 h53 .nil) (z_finite _)
theorem k93 : SumOk Tryz.prog 93 (sCB FiniteK) := ok_sCB zm_ok (.cons k141 h141 .nil) (z_Finite _)
theorem k179 : SumOk Tryz.prog 179 (sCCC divK) := ok_sCCC zm_ok (.cons k53 h53 .nil) (z_div _)
theorem k180 : SumOk Tryz.prog 180 (sMZC underK) := ok_sMZC zm_ok (.cons k22 h22 (.cons k84 h84 .nil)) (z_under _ _)
theorem k89' : SumOk Tryz.prog 89 (sMZp moebK) := ok_sMZp zm_ok (.cons k180 h180 (.cons k81 h81 (.cons k22 h22 (.cons k84 h84 (.cons k179 h179 .nil))))) (z_moeb _ _ _ _ _)
theorem k89 : SumOk Tryz.prog 89 (sMZ moebK) := k89'.weak fun R args k r hr => by
  refine ⟨k, ?_, fun v hv => hv⟩
  unfold sMZ at hr; split at hr
  · obtain ⟨i, m, rfl, hx⟩ := oneM_some hr
    cases hi : (i == 1) with
    | false => rw [hi] at hx; cases hx
    | true =>
      rw [hi, cond_true, show moebK = moebB underK noughtK mulK addK divK from rfl, moeb_told] at hx
      unfold sMZp
      show (bif i == 1 then _ else _) = _
      rw [hi]
      exact hx
  · cases hr
theorem k26' : SumOk Tryz.prog 26 (sMZp atK) := ok_sMZp zm_ok (.cons k17 h17 (.cons k79 h79 (.cons k89 h89 (.cons k93 h93 .nil)))) (z_at _ _ _ _ _)
theorem k26 : SumOk Tryz.prog 26 (sMZ atK) := k26'.weak fun R args k r hr => by
  refine ⟨k, ?_, fun v hv => hv⟩
  unfold sMZ at hr; split at hr
  · obtain ⟨i, m, rfl, hx⟩ := oneM_some hr
    cases hi : (i == 1) with
    | false => rw [hi] at hx; cases hx
    | true =>
      rw [hi, cond_true, show atK = atB chkK placeK moebK FiniteK from rfl, at_told (chk := chkK) placeK moebK FiniteK (fun R m F => chk1_told _ _ _ _ R m F)] at hx
      unfold sMZp
      show (bif i == 1 then _ else _) = _
      rw [hi]
      exact hx
  · cases hr
theorem k102 : SumOk Tryz.prog 102 (sTB unlikeK) := ok_sTB zm_ok (.cons k23 h23 .nil) (z_unlike _)
theorem k103 : SumOk Tryz.prog 103 (sTM threeK) := ok_sTM zm_ok (.cons k21 h21 (.cons k22 h22 (.cons k86 h86 (.cons (sMM2_of k85) h85 .nil)))) (z_three _ _ _ _)
theorem k29 : SumOk Tryz.prog 29 (sTTM ThreeK) :=
  sTTM_of (ok_sTTMp zm_ok (.cons k79 h79 (.cons k102 h102 (.cons k103 h103 (.cons (sMM2_of k20) h20 (.cons (sMMM2_of k18) h18 .nil))))) (z_Three _ _ _ _ _))

theorem three_calls (f g : I3) (w : World) : Calls Tryz.prog 5 ⟨[iv f, iv g]⟩ w fun e w' => e = .returned (.bool true) ∧ RowKit.Below w.heap.size w w' := by
  have hall : AllOk Tryz.prog [(14, sTrue), (24, sUp upG), (25, sOf ofG), (29, sTTM ThreeK), (26, sMZ atK), (28, sCCFB nearK)] :=
    .cons k14 h14 (.cons k24 h24 (.cons k25 h25 (.cons k29 h29 (.cons k26 h26 (.cons k28 h28 .nil)))))
  have e : evFn (cx Tryz.prog [(14, sTrue), (24, sUp upG), (25, sOf ofG), (29, sTTM ThreeK), (26, sMZ atK), (28, sCCFB nearK)]) 80 5 [iv f, iv g] (fun v => match v with | .bool true => some () | _ => none) = some () := by
    rw [z_threeLaw]
    exact threeLawK_true f g _
  obtain ⟨v, h1, _, h2⟩ := evFn_sound (cx_ok hall) zm_ok e rfl
  have : v = .bool true := by
    split at h1
    · rfl
    · cases h1
  subst this
  exact h2 w
end Go.Vm
