/- ForceLift's small functions are what is told of them; no conditions. -/
import Derived.Test.YtnbpfafngidimaaGreatVmZN1
import Derived.Test.YtnbpfafngidimaaGreatVmZN2
import Derived.Test.YtnbpfafngidimaaGreatVmZV
namespace Go.Vm
open Go.Proofs
set_option linter.unusedVariables false
set_option maxRecDepth 1000000

/-! ### ForceLift's functions are what is told of them -/
theorem h68 : Has Tryz.prog 68 := ⟨Tryz.f68, _, Tryz.func68, by kernel_rfl, rfl⟩
theorem h124 : Has Tryz.prog 124 := ⟨Tryz.f124, _, Tryz.func124, by kernel_rfl, rfl⟩
theorem h40 : Has Tryz.prog 40 := ⟨Tryz.f40, _, Tryz.func40, by kernel_rfl, rfl⟩
theorem h128 : Has Tryz.prog 128 := ⟨Tryz.f128, _, Tryz.func128, by kernel_rfl, rfl⟩
theorem h66 : Has Tryz.prog 66 := ⟨Tryz.f66, _, Tryz.func66, by kernel_rfl, rfl⟩
theorem h195 : Has Tryz.prog 195 := ⟨Tryz.f195, _, Tryz.func195, by kernel_rfl, rfl⟩
theorem h65 : Has Tryz.prog 65 := ⟨Tryz.f65, _, Tryz.func65, by kernel_rfl, rfl⟩
theorem h69 : Has Tryz.prog 69 := ⟨Tryz.f69, _, Tryz.func69, by kernel_rfl, rfl⟩
theorem h192 : Has Tryz.prog 192 := ⟨Tryz.f192, _, Tryz.func192, by kernel_rfl, rfl⟩
theorem k68 : SumOk Tryz.prog 68 (sIF wholeG) := sumOk_of zm_ok .nil (n := 60) fun R args k r hr => by
  unfold sIF at hr; split at hr
  · exact ⟨rfl, (zl_whole fiReal R _ k).trans hr⟩
  · cases hr
theorem k124 : SumOk Tryz.prog 124 (sCC conjK) := ok_sCC zm_ok .nil zl_conj
theorem k40 : SumOk Tryz.prog 40 (sCC timesK) := ok_sCC zm_ok .nil zl_times
theorem k65 : SumOk Tryz.prog 65 sPi2 := sumOk_of zm_ok .nil (n := 60) fun R args k r hr => by
  unfold sPi2 at hr; split at hr
  · exact ⟨rfl, (zl_Pi R k).trans hr⟩
  · cases hr
def onlyT {R : Type} (k : Value → Option R) : Value → Option R := fun v => match v with | .bool true => k (.bool true) | _ => none
def onlyF {R : Type} (k : Value → Option R) : Value → Option R := fun v => match v with | .bool false => k (.bool false) | _ => none
def onlyZ {R : Type} (k : Value → Option R) : Value → Option R := fun v => match v with | .int .i64 e => (match decide (e = 0) with | true => k (.int .i64 0) | false => none) | _ => none
theorem onlyT_some {R : Type} {k : Value → Option R} {v : Value} {r : R} (h : onlyT k v = some r) : k v = some r := by
  unfold onlyT at h; split at h
  · exact h
  · cases h
theorem onlyF_some {R : Type} {k : Value → Option R} {v : Value} {r : R} (h : onlyF k v = some r) : k v = some r := by
  unfold onlyF at h; split at h
  · exact h
  · cases h
theorem onlyZ_some {R : Type} {k : Value → Option R} {v : Value} {r : R} (h : onlyZ k v = some r) : k v = some r := by
  unfold onlyZ at h; split at h
  · split at h
    · rename_i e _ he
      have := of_decide_eq_true he
      subst this
      exact h
    · cases h
  · cases h
theorem yesI_onlyZ {R : Type} (k : Value → Option R) : (fun e => onlyZ k (.int .i64 e)) = yesI (k (.int .i64 0)) := rfl
theorem k128t : SumOk Tryz.prog 128 (sFit1 (fitT WithinK)) := (sumOk_of (g := sFitB (fitB WithinK)) zm_ok (.cons k135 h135 .nil) (n := 60) fun R args k r hr => by
  unfold sFitB at hr; split at hr
  · exact ⟨rfl, (zl_fit _ R _ _ _ k).trans hr⟩
  · cases hr).weak fun R args k r hr => by
  unfold sFit1 at hr; split at hr
  · refine ⟨onlyT k, ?_, fun v hv => onlyT_some hv⟩
    unfold sFitB
    simp only
    refine Eq.trans ?_ hr
    congr 1 <;> (funext t; cases t <;> rfl)
  · cases hr
theorem k66t : SumOk Tryz.prog 66 (sFFFB1 (nrT absK)) := (sumOk_of (g := sFFFB (nearFB absK)) zm_ok (.cons k53 h53 .nil) (n := 60) fun R args k r hr => by
  unfold sFFFB at hr; split at hr
  · exact ⟨rfl, (zl_near _ R _ _ _ k).trans hr⟩
  · cases hr).weak fun R args k r hr => by
  unfold sFFFB1 at hr; split at hr
  · refine ⟨onlyT k, ?_, fun v hv => onlyT_some hv⟩
    unfold sFFFB
    simp only
    refine Eq.trans ?_ hr
    congr 1 <;> (funext t; cases t <;> rfl)
  · cases hr
theorem k93t : SumOk Tryz.prog 93 (sCB1 (fCT FiniteK)) := k93.weak fun R args k r hr => by
  unfold sCB1 at hr; split at hr
  · refine ⟨onlyT k, ?_, fun v hv => onlyT_some hv⟩
    unfold sCB
    simp only
    refine Eq.trans ?_ hr
    congr 1 <;> (funext t; cases t <;> rfl)
  · cases hr
theorem k141t : SumOk Tryz.prog 141 (sFB1 (fFT finiteK)) := k141.weak fun R args k r hr => by
  unfold sFB1 at hr; split at hr
  · refine ⟨onlyT k, ?_, fun v hv => onlyT_some hv⟩
    unfold sFB
    simp only
    refine Eq.trans ?_ hr
    congr 1 <;> (funext t; cases t <;> rfl)
  · cases hr
theorem k199t : SumOk Tryz.prog 199 (sEI1 (eiT checkK)) := k199.weak fun R args k r hr => by
  unfold sEI1 at hr; split at hr
  · refine ⟨onlyZ k, ?_, fun v hv => onlyZ_some hv⟩
    unfold sEI
    simp only
    rw [yesI_onlyZ]
    exact hr
  · cases hr
theorem k114t : SumOk Tryz.prog 114 (sNot1 n1K) := k114.weak fun R args k r hr => by
  unfold sNot1 at hr; split at hr
  · refine ⟨onlyF k, ?_, fun v hv => onlyF_some hv⟩
    unfold sFB
    simp only
    refine Eq.trans ?_ hr
    unfold n1K
    congr 1 <;> (funext t; cases t <;> rfl)
  · cases hr
theorem k112t : SumOk Tryz.prog 112 (sNot2 n2K) := k112'.weak fun R args k r hr => by
  unfold sNot2 at hr; split at hr
  · refine ⟨onlyF k, ?_, fun v hv => onlyF_some hv⟩
    unfold sInf3
    simp only
    refine Eq.trans ?_ hr
    unfold n2K
    show isInfK R _ _ = _
    congr 1 <;> (funext t; cases t <;> rfl)
  · cases hr
end Go.Vm
