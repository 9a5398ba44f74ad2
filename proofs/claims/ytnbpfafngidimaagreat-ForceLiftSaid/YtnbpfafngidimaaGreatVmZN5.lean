/- A call of ForceLift returns true, if what its Lean function computes is true, and leaves alone what was there. -/
import Derived.Test.YtnbpfafngidimaaGreatVmZN3
namespace Go.Vm
open Go.Proofs
set_option linter.unusedVariables false
set_option maxRecDepth 1000000

/-! ### clean: read from what is there -/
theorem k192 : HSumOk Tryz.prog 192 (sClean (clT (eiT checkK) WithinK subK lengthK)) := by
  intro R args H k r hr
  unfold sClean at hr
  split at hr
  · rename_i b o n c c1 c2 rr t
    cases hon : (Nat.beq o 0 && Nat.beq n 3) with
    | false => rw [hon] at hr; cases hr
    | true =>
      rw [hon] at hr
      simp only [Bool.and_eq_true, Nat.beq_eq] at hon
      obtain ⟨rfl, rfl⟩ := hon
      simp only [cond_true] at hr
      split at hr
      · rename_i cs sz hl
        unfold clT at hr
        split at hr
        · rename_i k1 b1 b2 t1 t2 p1 k2 a1 a2 s1 s2 p2 k3 d1 d2 r1 r2 p3
          cases hk : (k1 == 1 && k2 == 3 && k3 == 2) with
          | false => rw [hk] at hr; cases hr
          | true =>
            rw [hk] at hr
            simp only [Bool.and_eq_true] at hk
            obtain ⟨⟨q1, q2⟩, q3⟩ := hk
            have e1 : k1 = 1 := by simpa using q1
            have e2 : k2 = 3 := by simpa using q2
            have e3 : k3 = 2 := by simpa using q3
            subst e1 e2 e3
            simp only [cond_true] at hr
            have hall : AllOk Tryz.prog [(199, sEI1 (eiT checkK)), (135, sCFB WithinK), (21, sCCC subK), (38, sCF lengthK)] := .cons k199t h199 (.cons k135 h135 (.cons k21 h21 (.cons k38 h38 .nil)))
            have main : evHeap (cx Tryz.prog [(199, sEI1 (eiT checkK)), (135, sCFB WithinK), (21, sCCC subK), (38, sCF lengthK)]) 100 192 [.agg ⟨[.slice (some ⟨0, 0, none⟩) 3 c]⟩, .agg ⟨[.complex .f64 c1 c2, .float .f64 rr]⟩, .bool t]
                ⟨1, [(0, .cells (cells3 b1 b2 t1 t2 p1 a1 a2 s1 s2 p2 d1 d2 r1 r2 p3) sz)]⟩ (onlyZ k) = some r := by
              cases t with
              | true => exact (zl_cleanT (eiT checkK) WithinK subK lengthK R b1 b2 t1 t2 p1 a1 a2 s1 s2 p2 d1 d2 r1 r2 p3 c1 c2 rr sz c (onlyZ k)).trans hr
              | false => exact (zl_cleanF (eiT checkK) WithinK subK lengthK R b1 b2 t1 t2 p1 a1 a2 s1 s2 p2 d1 d2 r1 r2 p3 c1 c2 rr sz c (onlyZ k)).trans hr
            obtain ⟨v, g1, g2, g3⟩ := evHeap_sound (cx_ok hall) zm_ok main
            refine ⟨v, onlyZ_some g1, g2, fun ρ w args' hi ha => ?_⟩
            cases ha with
            | cons hf hrest =>
            cases hrest with
            | cons hcirc hrest =>
            cases hrest with
            | cons ht hrest =>
            cases hrest
            have ec := hcirc.flat_eq rfl
            have et := ht.flat_eq rfl
            subst ec et
            cases hf with
            | agg hs =>
            cases hs with
            | cons hsl hnil =>
            cases hnil
            cases hsl with
            | @slice _ _ _ _ s hs =>
              refine g3 (oneMap s) w _ (hi.one_cells hl rfl hs) (.cons (.agg (.cons (.slice (oneMap_zero s)) .nil)) (.cons (VRel.ofFlat _ rfl) (.cons (VRel.ofFlat _ rfl) .nil)))
        · cases hr
      · cases hr
  · cases hr

theorem gtab_one {P : Program} {n : Nat} {g : HSum} (hg : HSumOk P n g) (hh : Has P n) : ∀ f g', gtab [(n, g)] f = some g' → HSumOk P f g' ∧ Has P f := by
  intro f g' h
  unfold gtab at h
  cases hb : Nat.beq n f with
  | true =>
    rw [hb] at h
    cases h
    rw [← Nat.eq_of_beq_eq_true hb]
    exact ⟨hg, hh⟩
  | false => rw [hb] at h; cases h
theorem cxg_ok {P : Program} {l : List (Nat × Sum)} {n : Nat} {g : HSum} (h : AllOk P l) (hg : HSumOk P n g) (hh : Has P n) : (cxg fiReal P l [] [(n, g)]).Ok where
  fair := fiReal_fair
  sums := fun f g hg => tab_ok h f g hg
  exts := fun f g hg => by cases hg
  meths := fun t s f hf => by cases hf
  nan1 := fun f hf => by cases hf
  hs := fun f args H v h => by cases h
  gs := fun f g' h => gtab_one hg hh f g' h

theorem k67L : SumOk Tryz.prog 67 sTrueL := fun R args k r hr => by
  unfold sTrueL at hr; split at hr
  · exact k67 R [] k r hr
  · cases hr
def liftK : KLift := liftB wholeG absK modK (eiT checkK) (fitT WithinK) conjK negK timesK sclK (clT (eiT checkK) WithinK subK lengthK) (sdT subK lengthK) subK addK mulK (fCT FiniteK) (fFT finiteK) (nrT absK)
theorem lift_calls {s t turn x y radius : Int} (h : liftK Unit s t turn x y radius (fun t => match t with | true => some () | false => none) = some ()) (w : World) :
    Calls Tryz.prog 12 ⟨[.int .i64 s, .int .i64 t, .int .i64 turn, .int .i64 x, .int .i64 y, .int .i64 radius]⟩ w fun e w' => e = .returned (.bool true) ∧ RowKit.Below w.heap.size w w' := by
  have hall : AllOk Tryz.prog [(67, sTrueL), (68, sIF wholeG), (53, sFF absK), (69, sMod modK), (199, sEI1 (eiT checkK)), (128, sFit1 (fitT WithinK)), (124, sCC conjK), (39, sCFC sclK), (195, sSide (sdT subK lengthK)), (21, sCCC subK), (84, sCCC addK), (22, sCCC mulK), (86, sCC negK), (40, sCC timesK), (65, sPi2), (93, sCB1 (fCT FiniteK)), (141, sFB1 (fFT finiteK)), (66, sFFFB1 (nrT absK))] :=
    .cons k67L h67 (.cons k68 h68 (.cons k53 h53 (.cons k69 h69 (.cons k199t h199 (.cons k128t h128 (.cons k124 h124 (.cons k39 h39 (.cons k195t h195 (.cons k21 h21 (.cons k84 h84 (.cons k22 h22 (.cons k86 h86 (.cons k40 h40 (.cons k65 h65 (.cons k93t h93 (.cons k141t h141 (.cons k66t h66 .nil)))))))))))))))))
  have e := (zl_lift wholeG absK modK (eiT checkK) (fitT WithinK) conjK negK timesK sclK (clT (eiT checkK) WithinK subK lengthK) (sdT subK lengthK) subK addK mulK (fCT FiniteK) (fFT finiteK) (nrT absK) Unit s t turn x y radius (fun v => match v with | .bool true => some () | _ => none)).trans
    (show liftB _ _ _ _ _ _ _ _ _ _ _ _ _ _ _ _ _ Unit s t turn x y radius _ = some () from (by
      refine Eq.trans ?_ h
      unfold liftK
      congr 1
      funext t
      cases t <;> rfl))
  obtain ⟨v, h1, _, h2⟩ := evFn_sound (cxg_ok hall k192 h192) zm_ok e rfl
  have : v = .bool true := by
    split at h1
    · rfl
    · cases h1
  subst this
  exact h2 w
end Go.Vm
