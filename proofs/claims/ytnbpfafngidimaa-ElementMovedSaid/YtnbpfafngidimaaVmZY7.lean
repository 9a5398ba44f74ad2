/- A call of ElementMoved returns true, if what its Lean function computes is true, and leaves alone what was there. -/
import Derived.Test.YtnbpfafngidimaaVmZY6
namespace Go.Vm
open Go.Proofs
set_option linter.unusedVariables false
set_option maxRecDepth 1000000

/-! ### Moved -/
theorem movB_er {chk : KEI} {re : KCB} {add : KCCC} {R : Type} {kind : Int} {a1 a2 s1 s2 p b1 b2 : Nat} {er er2 : Int → Option R} {ok : Nat → Nat → Option R} (h : ∀ e, e ≠ 0 → er e = er2 e) :
    movB chk re add R kind a1 a2 s1 s2 p b1 b2 er ok = movB chk re add R kind a1 a2 s1 s2 p b1 b2 er2 ok := by
  unfold movB
  congr 1
  funext e
  by_cases he : e = 0
  · subst he
    simp only [decide_true]
    congr 1
    funext t
    rw [forceB_eq, forceB_eq]
    cases t with
    | false => exact h 5 (by decide)
    | true =>
      simp only
      rw [forceB_eq, forceB_eq]
      cases hk : (kind == 1) with
      | true => rfl
      | false =>
        simp only
        congr 1
        funext u1 u2
        congr 1
        funext e
        by_cases he : e = 0
        · subst he; rfl
        · simp only [he, decide_false]; exact h e he
  · simp only [he, decide_false]
    exact h e he
def okOnly {R : Type} (k : Value → Option R) : Value → Option R := fun v => match v with
  | .tuple ⟨[x, .int .i64 e]⟩ => match decide (e = 0) with | true => k (.tuple ⟨[x, .int .i64 e]⟩) | false => none
  | _ => none
theorem k_movBase : SumOk Try.prog 8 (sMov (movB (checkB placeK withinK noughtK wholeK) placeK addK)) := sumOk_of zm_ok (.cons k_check2 h_check (.cons k19 h19 (.cons k9 h9 .nil))) (n := 60) fun R args k r hr => by
  unfold sMov at hr; split at hr
  · exact ⟨rfl, (y_moved placeK withinK noughtK wholeK addK R _ _ _ _ _ _ _ _ k).trans hr⟩
  · cases hr
theorem k_moved : SumOk Try.prog 8 (sMov2 movT) := k_movBase.weak fun R args k r hr => by
  refine ⟨okOnly k, ?_, fun v hv => ?_⟩
  · unfold sMov2 at hr; split at hr
    · rename_i kind a1 a2 s1 s2 p b1 b2
      unfold sMov
      simp only
      unfold movT at hr
      rw [← hr]
      exact movB_er fun e he => by simp [okOnly, he]
    · cases hr
  · unfold okOnly at hv
    split at hv
    · split at hv
      · exact hv
      · cases hv
    · cases hv

/-! ### awake -/
theorem awake_all : AllOk Try.prog [(10, sVal potK), (11, sVal spdK), (7, sEI checkE)] := .cons k_potK h_pot (.cons k_spdK h_spd (.cons k_check h_check .nil))
theorem awake_eval : evFn (cxv Try.prog [(10, sVal potK), (11, sVal spdK), (7, sEI checkE)]) 300 4 [] some = some (.bool true) := by kernel_rfl
theorem k_awake : SumOk Try.prog 4 sTrueE := fun R args k r hr => by
  unfold sTrueE at hr; split at hr
  · obtain ⟨v, h1, h2, h3⟩ := evFn_sound (cxv_ok awake_all) zm_ok awake_eval rfl
    cases h1
    exact ⟨rfl, _, hr, h2, h3⟩
  · cases hr

/-! ### The law -/
def ofK' : KGC := fun R x y k => ofK x y k
def lawMK {R : Type} (kind x1 y1 x2 y2 x3 y3 x4 y4 : Int) (p : Nat) (k : Bool → Option R) : Option R :=
  lawMB ofK' smM (checkB placeK withinK noughtK wholeK) movT addK subK mulK potK spdK slpK sameB kind x1 y1 x2 y2 x3 y3 x4 y4 p k
theorem moved_calls {kind x1 y1 x2 y2 x3 y3 x4 y4 : Int} {p : Nat} (h : lawMK kind x1 y1 x2 y2 x3 y3 x4 y4 p (fun t => match t with | true => some () | false => none) = some ()) (w : World) :
    Calls Try.prog 3 ⟨[.int .u8 kind, gz x1 y1, gz x2 y2, gz x3 y3, gz x4 y4, .float .f64 p]⟩ w fun e w' => e = .returned (.bool true) ∧ RowKit.Below w.heap.size w w' := by
  have hall : AllOk Try.prog [(4, sTrueE), (5, sOf ofK'), (6, sSm smM), (7, sEI (checkB placeK withinK noughtK wholeK)), (8, sMov2 movT), (9, sCCC addK), (14, sCCC subK), (15, sCCC mulK), (10, sVal potK), (11, sVal spdK), (12, sVal slpK), (13, sCCB sameB)] :=
    .cons k_awake h_awake (.cons k_of h_of (.cons k_small h_small (.cons k_check2 h_check (.cons k_moved h_moved (.cons k9 h9 (.cons k14 h14 (.cons k15 h15 (.cons k_potK h_pot (.cons k_spdK h_spd (.cons k_slpK h_slp (.cons k_same h_same .nil)))))))))))
  have e := (y_law ofK' smM placeK withinK noughtK wholeK movT addK subK mulK potK spdK slpK sameB Unit kind x1 y1 x2 y2 x3 y3 x4 y4 p (fun v => match v with | .bool true => some () | _ => none)).trans
    (show lawMB _ _ _ _ _ _ _ _ _ _ _ kind x1 y1 x2 y2 x3 y3 x4 y4 p _ = some () from (by
      refine Eq.trans ?_ h
      unfold lawMK
      congr 1
      funext t
      cases t <;> rfl))
  obtain ⟨v, h1, _, h2⟩ := evFn_sound (cx_ok hall) zm_ok e rfl
  have : v = .bool true := by
    split at h1
    · rfl
    · cases h1
  subst this
  exact h2 w
end Go.Vm
