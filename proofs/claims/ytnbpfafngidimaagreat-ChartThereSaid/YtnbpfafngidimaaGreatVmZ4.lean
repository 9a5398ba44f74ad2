/- A call of ChartGroup returns true and leaves alone what was there; no conditions. -/
import Derived.Test.YtnbpfafngidimaaGreatVmP1
import Derived.Test.YtnbpfafngidimaaGreatVmZ3
namespace Go.Vm
open Go.Proofs
set_option linter.unusedVariables false
set_option maxRecDepth 1000000

theorem zm_ok : Tryz.prog.follows .mixedOrders = true := by kernel_rfl
theorem h14 : Has Tryz.prog 14 := ⟨Tryz.f14, _, Tryz.func14, by kernel_rfl, rfl⟩
theorem h15 : Has Tryz.prog 15 := ⟨Tryz.f15, _, Tryz.func15, by kernel_rfl, rfl⟩
theorem h16 : Has Tryz.prog 16 := ⟨Tryz.f16, _, Tryz.func16, by kernel_rfl, rfl⟩
theorem h17 : Has Tryz.prog 17 := ⟨Tryz.f17, _, Tryz.func17, by kernel_rfl, rfl⟩
theorem h18 : Has Tryz.prog 18 := ⟨Tryz.f18, _, Tryz.func18, by kernel_rfl, rfl⟩
theorem h19 : Has Tryz.prog 19 := ⟨Tryz.f19, _, Tryz.func19, by kernel_rfl, rfl⟩
theorem h20 : Has Tryz.prog 20 := ⟨Tryz.f20, _, Tryz.func20, by kernel_rfl, rfl⟩
theorem h21 : Has Tryz.prog 21 := ⟨Tryz.f21, _, Tryz.func21, by kernel_rfl, rfl⟩
theorem h22 : Has Tryz.prog 22 := ⟨Tryz.f22, _, Tryz.func22, by kernel_rfl, rfl⟩
theorem h23 : Has Tryz.prog 23 := ⟨Tryz.f23, _, Tryz.func23, by kernel_rfl, rfl⟩
theorem h24 : Has Tryz.prog 24 := ⟨Tryz.f24, _, Tryz.func24, by kernel_rfl, rfl⟩
theorem h25 : Has Tryz.prog 25 := ⟨Tryz.f25, _, Tryz.func25, by kernel_rfl, rfl⟩
theorem h53 : Has Tryz.prog 53 := ⟨Tryz.f53, _, Tryz.func53, by kernel_rfl, rfl⟩
theorem h79 : Has Tryz.prog 79 := ⟨Tryz.f79, _, Tryz.func79, by kernel_rfl, rfl⟩
theorem h80 : Has Tryz.prog 80 := ⟨Tryz.f80, _, Tryz.func80, by kernel_rfl, rfl⟩
theorem h81 : Has Tryz.prog 81 := ⟨Tryz.f81, _, Tryz.func81, by kernel_rfl, rfl⟩
theorem h82 : Has Tryz.prog 82 := ⟨Tryz.f82, _, Tryz.func82, by kernel_rfl, rfl⟩
theorem h83 : Has Tryz.prog 83 := ⟨Tryz.f83, _, Tryz.func83, by kernel_rfl, rfl⟩
theorem h84 : Has Tryz.prog 84 := ⟨Tryz.f84, _, Tryz.func84, by kernel_rfl, rfl⟩
theorem h85 : Has Tryz.prog 85 := ⟨Tryz.f85, _, Tryz.func85, by kernel_rfl, rfl⟩
theorem h86 : Has Tryz.prog 86 := ⟨Tryz.f86, _, Tryz.func86, by kernel_rfl, rfl⟩
theorem h87 : Has Tryz.prog 87 := ⟨Tryz.f87, _, Tryz.func87, by kernel_rfl, rfl⟩
theorem h135 : Has Tryz.prog 135 := ⟨Tryz.f135, _, Tryz.func135, by kernel_rfl, rfl⟩

section shapes
variable {P : Program} {l : List (Nat × Sum)} {n : Nat} {f : FuncId}
theorem ok_sDet {g : KMC} (hm : P.follows .mixedOrders = true) (h : AllOk P l)
    (hg : ∀ (R : Type) (m : Mp) (k : Value → Option R), evFn (cx P l) n f [mv 1 m] k = g R m fun x y => k (.complex .f64 x y)) : SumOk P f (sDet g) :=
  sumOk_of hm h (n := n) fun R args k r hr => by
    unfold sDet at hr; split at hr
    · obtain ⟨i, m, rfl, hx⟩ := oneM_some hr
      cases hi : (i == 1) with
      | false => rw [hi] at hx; cases hx
      | true =>
        rw [hi] at hx
        have : i = 1 := by simpa using hi
        subst this
        exact ⟨rfl, by rw [hg]; exact hx⟩
    · cases hr
theorem ok_sMM {g : KMM} (hm : P.follows .mixedOrders = true) (h : AllOk P l)
    (hg : ∀ (R : Type) (m : Mp) (k : Value → Option R), evFn (cx P l) n f [mv 1 m] k = g R m (fun e => k (.tuple ⟨[mv 0 zm, .int .i64 e]⟩)) (fun m => k (.tuple ⟨[mv 1 m, .int .i64 0]⟩))) : SumOk P f (sMM g) :=
  sumOk_of hm h (n := n) fun R args k r hr => by
    unfold sMM at hr; split at hr
    · obtain ⟨i, m, rfl, hx⟩ := oneM_some hr
      cases hi : (i == 1) with
      | false => rw [hi] at hx; cases hx
      | true =>
        rw [hi] at hx
        have : i = 1 := by simpa using hi
        subst this
        exact ⟨rfl, by rw [hg]; exact hx⟩
    · cases hr
theorem ok_sMMM {g : KMMM} (hm : P.follows .mixedOrders = true) (h : AllOk P l)
    (hg : ∀ (R : Type) (m u : Mp) (k : Value → Option R), evFn (cx P l) n f [mv 1 m, mv 1 u] k = g R m u (fun e => k (.tuple ⟨[mv 0 zm, .int .i64 e]⟩)) (fun m => k (.tuple ⟨[mv 1 m, .int .i64 0]⟩))) : SumOk P f (sMMM g) :=
  sumOk_of hm h (n := n) fun R args k r hr => by
    unfold sMMM at hr; split at hr
    · obtain ⟨i, m, rfl, hx⟩ := oneM_some hr
      obtain ⟨j, u, rfl, hy⟩ := oneM_some hx
      cases hi : (i == 1 && j == 1) with
      | false => rw [hi] at hy; cases hy
      | true =>
        rw [hi] at hy
        obtain ⟨rfl, rfl⟩ : i = 1 ∧ j = 1 := by simpa using hi
        exact ⟨rfl, by rw [hg]; exact hy⟩
    · cases hr
theorem ok_sMMB {g : KMMB} (hm : P.follows .mixedOrders = true) (h : AllOk P l)
    (hg : ∀ (R : Type) (m u : Mp) (k : Value → Option R), evFn (cx P l) n f [mv 1 m, mv 1 u] k = g R m u fun t => k (.bool t)) : SumOk P f (sMMB g) :=
  sumOk_of hm h (n := n) fun R args k r hr => by
    unfold sMMB at hr; split at hr
    · obtain ⟨i, m, rfl, hx⟩ := oneM_some hr
      obtain ⟨j, u, rfl, hy⟩ := oneM_some hx
      cases hi : (i == 1 && j == 1) with
      | false => rw [hi] at hy; cases hy
      | true =>
        rw [hi] at hy
        obtain ⟨rfl, rfl⟩ : i = 1 ∧ j = 1 := by simpa using hi
        exact ⟨rfl, by rw [hg]; simpa only [forceB_eq, cond_true] using hy⟩
    · cases hr
theorem ok_sChk {g1 g2 : KMI} (hm : P.follows .mixedOrders = true) (h : AllOk P l)
    (hg1 : ∀ (R : Type) (m : Mp) (k : Value → Option R), evFn (cx P l) n f [mv 1 m] k = g1 R m fun e => k (.int .i64 e))
    (hg2 : ∀ (R : Type) (m : Mp) (k : Value → Option R), evFn (cx P l) n f [mv 2 m] k = g2 R m fun e => k (.int .i64 e)) : SumOk P f (sChk g1 g2) :=
  sumOk_of hm h (n := n) fun R args k r hr => by
    unfold sChk at hr; split at hr
    · obtain ⟨i, m, rfl, hx⟩ := oneM_some hr
      cases hi : (i == 1) with
      | true =>
        rw [hi] at hx
        have : i = 1 := by simpa using hi
        subst this
        exact ⟨rfl, by rw [hg1]; exact hx⟩
      | false =>
        rw [hi] at hx
        simp only [cond_false] at hx
        cases hj : (i == 2) with
        | false => rw [hj] at hx; cases hx
        | true =>
          rw [hj] at hx
          have : i = 2 := by simpa using hj
          subst this
          exact ⟨rfl, by rw [hg2]; exact hx⟩
    · cases hr
theorem ok_sC4 {g : KC4} (hm : P.follows .mixedOrders = true) (h : AllOk P l)
    (hg : ∀ (R : Type) a b c d a' b' c' d' (k : Value → Option R), evFn (cx P l) n f [.complex .f64 a b, .complex .f64 c d, .complex .f64 a' b', .complex .f64 c' d'] k = g R a b c d a' b' c' d' fun x y => k (.complex .f64 x y)) : SumOk P f (sC4 g) :=
  sumOk_of hm h (n := n) fun R args k r hr => by
    unfold sC4 at hr; split at hr
    · exact ⟨rfl, by rw [hg]; exact hr⟩
    · cases hr
theorem ok_sUp {g : KGB} (hm : P.follows .mixedOrders = true) (h : AllOk P l)
    (hg : ∀ (R : Type) x y (k : Value → Option R), evFn (cx P l) n f [.agg ⟨[.int .i16 x, .int .i16 y]⟩, .int .i16 8] k = g R x y fun t => k (.bool t)) : SumOk P f (sUp g) :=
  sumOk_of hm h (n := n) fun R args k r hr => by
    unfold sUp at hr; split at hr
    · rename_i x y to
      cases hi : (to == 8) with
      | false => rw [hi] at hr; cases hr
      | true =>
        rw [hi] at hr
        have : to = 8 := by simpa using hi
        subst this
        exact ⟨rfl, by rw [hg]; simpa only [forceB_eq, cond_true] using hr⟩
    · cases hr
theorem ok_sOf {g : KGC} (hm : P.follows .mixedOrders = true) (h : AllOk P l)
    (hg : ∀ (R : Type) x y (k : Value → Option R), evFn (cx P l) n f [.agg ⟨[.int .i16 x, .int .i16 y]⟩] k = g R x y fun a b => k (.complex .f64 a b)) : SumOk P f (sOf g) :=
  sumOk_of hm h (n := n) fun R args k r hr => by
    unfold sOf at hr; split at hr
    · exact ⟨rfl, by rw [hg]; exact hr⟩
    · cases hr
theorem ok_sFrM {g : KFrM} (hm : P.follows .mixedOrders = true) (h : AllOk P l)
    (hg : ∀ (R : Type) (q : Fr) (k : Value → Option R), evFn (cx P l) n f [fv q] k = g R q fun m => k (mv 1 m)) : SumOk P f (sFrM g) :=
  sumOk_of hm h (n := n) fun R args k r hr => by
    unfold sFrM at hr; split at hr
    · obtain ⟨q, rfl, hx⟩ := oneF_some hr
      exact ⟨rfl, by rw [hg]; exact hx⟩
    · cases hr
theorem ok_sFrB {g : KFrB} (hm : P.follows .mixedOrders = true) (h : AllOk P l)
    (hg : ∀ (R : Type) (q : Fr) (k : Value → Option R), evFn (cx P l) n f [fv q] k = g R q fun t => k (.bool t)) : SumOk P f (sFrB g) :=
  sumOk_of hm h (n := n) fun R args k r hr => by
    unfold sFrB at hr; split at hr
    · obtain ⟨q, rfl, hx⟩ := oneF_some hr
      exact ⟨rfl, by rw [hg]; simpa only [forceB_eq] using hx⟩
    · cases hr
theorem ok_sTrue (hm : P.follows .mixedOrders = true) (h : AllOk P l)
    (hg : ∀ (R : Type) (k : Value → Option R), evFn (cx P l) n f [] k = k (.bool true)) : SumOk P f sTrue :=
  sumOk_of hm h (n := n) fun R args k r hr => by
    unfold sTrue at hr; split at hr
    · exact ⟨rfl, by rw [hg]; exact hr⟩
    · cases hr
end shapes

theorem k21 : SumOk Tryz.prog 21 (sCCC subK) := ok_sCCC zm_ok .nil z_sub
theorem k22 : SumOk Tryz.prog 22 (sCCC mulK) := ok_sCCC zm_ok .nil z_mul
theorem k84 : SumOk Tryz.prog 84 (sCCC addK) := ok_sCCC zm_ok .nil z_add
theorem k86 : SumOk Tryz.prog 86 (sCC negK) := ok_sCC zm_ok .nil z_neg
theorem k87 : SumOk Tryz.prog 87 (sFFB likeK) := ok_sFFB zm_ok .nil z_like
theorem k23 : SumOk Tryz.prog 23 (sCCB LikeK) := ok_sCCB zm_ok (.cons k87 h87 .nil) (z_Like _)
theorem k81 : SumOk Tryz.prog 81 (sCB noughtK) := ok_sCB zm_ok .nil z_nought
theorem k53 : SumOk Tryz.prog 53 (sFF absK) := ok_sFF zm_ok .nil z_abs
theorem k80 : SumOk Tryz.prog 80 (sFFB withinK) := ok_sFFB zm_ok (.cons k53 h53 .nil) (z_within _)
theorem k135 : SumOk Tryz.prog 135 (sCFB WithinK) := ok_sCFB zm_ok (.cons k80 h80 .nil) (z_Within _)
theorem k79 : SumOk Tryz.prog 79 (sCB placeK) := ok_sCB zm_ok (.cons k135 h135 .nil) (z_place _)
theorem k24 : SumOk Tryz.prog 24 (sUp upG) := ok_sUp zm_ok .nil z_up
theorem k25 : SumOk Tryz.prog 25 (sOf ofG) := ok_sOf zm_ok .nil z_of
theorem k16 : SumOk Tryz.prog 16 (sFrB smallK) := ok_sFrB zm_ok (.cons k24 h24 .nil) (z_small _)
theorem k15 : SumOk Tryz.prog 15 (sFrM frK) := ok_sFrM zm_ok (.cons k25 h25 .nil) (z_fr _)
theorem k82 : SumOk Tryz.prog 82 (sDet detK) := ok_sDet zm_ok (.cons k22 h22 (.cons k21 h21 .nil)) (z_det _ _)
theorem k83 : SumOk Tryz.prog 83 (sC4 bothK) := ok_sC4 zm_ok (.cons k22 h22 (.cons k84 h84 .nil)) (z_both _ _)
def chk2K : KMI := chk2B placeK noughtK withinK
theorem k17 : SumOk Tryz.prog 17 (sChk chkK chk2K) := ok_sChk zm_ok (.cons k79 h79 (.cons k81 h81 (.cons k80 h80 (.cons k82 h82 .nil)))) (z_chk1 _ _ _ _) (z_chk2 _ _ _ _)
theorem k85 : SumOk Tryz.prog 85 (sMM toldK) := ok_sMM zm_ok (.cons k17 h17 .nil) (z_told _ _)
theorem k20 : SumOk Tryz.prog 20 (sMM turnedK) := ok_sMM zm_ok (.cons k17 h17 (.cons k86 h86 (.cons k85 h85 .nil))) (z_turned _ _ _ _)
theorem k19 : SumOk Tryz.prog 19 (sMMB alikeK) := ok_sMMB zm_ok (.cons k23 h23 .nil) (z_alike _)
theorem k18 : SumOk Tryz.prog 18 (sMMM thenK) := ok_sMMM zm_ok (.cons k17 h17 (.cons k83 h83 (.cons k85 h85 .nil))) (z_then _ _ _ _)
theorem z_awake (R : Type) (k : Value → Option R) : evFn (cx Tryz.prog []) 1000 14 [] k = k (.bool true) := by kernel_rfl
theorem k14 : SumOk Tryz.prog 14 sTrue := ok_sTrue zm_ok .nil z_awake

theorem group_calls (f g h : Fr) (w : World) : Calls Tryz.prog 3 ⟨[fv f, fv g, fv h]⟩ w fun e w' => e = .returned (.bool true) ∧ RowKit.Below w.heap.size w w' := by
  have hall : AllOk Tryz.prog [(14, sTrue), (15, sFrM frK), (16, sFrB smallK), (17, sChk chkK chk2K), (18, sMMM thenK), (19, sMMB alikeK), (20, sMM turnedK), (21, sCCC subK), (22, sCCC mulK), (23, sCCB LikeK)] :=
    .cons k14 h14 (.cons k15 h15 (.cons k16 h16 (.cons k17 h17 (.cons k18 h18 (.cons k19 h19 (.cons k20 h20 (.cons k21 h21 (.cons k22 h22 (.cons k23 h23 .nil)))))))))
  have e : evFn (cx Tryz.prog [(14, sTrue), (15, sFrM frK), (16, sFrB smallK), (17, sChk chkK chk2K), (18, sMMM thenK), (19, sMMB alikeK), (20, sMM turnedK), (21, sCCC subK), (22, sCCC mulK), (23, sCCB LikeK)]) 40 3 [fv f, fv g, fv h] (fun v => match v with | .bool true => some () | _ => none) = some () := by
    rw [z_group]
    exact groupK_true f g h _
  obtain ⟨v, h1, _, h2⟩ := evFn_sound (cx_ok hall) zm_ok e rfl
  have : v = .bool true := by
    split at h1
    · rfl
    · cases h1
  subst this
  exact h2 w
end Go.Vm
