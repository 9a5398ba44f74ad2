/- A part of the evaluator and of what is told of floats; no conditions. -/
import Derived.Test.YtnbpfafngidimaaGreatVmUJ1
import Derived.Test.YtnbpfafngidimaaGreatVmLR
import Derived.Test.YtnbpfafngidimaaGreatVmV1
namespace Go.Vm
open Go.Proofs
set_option linter.unusedVariables false
set_option linter.unusedSectionVars false
set_option linter.unusedSimpArgs false
set_option maxRecDepth 1000000

/-! ### panel.Solve and panel.Through: the contracts -/
theorem take_at {b : Nat} {ex ex1 : Ex} {e e1 : Env} {H1 : AH} {O : Objs} (h : takeAt (R := Ex × Env × Objs) b (fun ex e O => some (ex, e, O)) ex1 e1 H1 = some (ex, e, O)) : ex = ex1 ∧ e = takeE [4, 5] e1 ∧ ∃ bo, O = takeO bo H1.objs := by
  unfold takeAt at h
  split at h
  · cases h; exact ⟨rfl, rfl, [b], rfl⟩
  · cases h; exact ⟨rfl, rfl, [], rfl⟩
theorem fun_at {C : Cx} (hC : C.Ok) (hmix : C.P.follows .mixedOrders = true) {n : Nat} {f : FuncId} {fn : Func} {c : Code} (hf : C.P.funcs[f]? = some fn) (hb : fn.body = some c) {L : Hand} {args : List Value} {H : AH} (hL : ∀ a ∈ loopsIn c, LOkB C.P H L a)
    {b : Nat} {ex : Ex} {e' : Env} {O : Objs} {vs : List Value} (hl : args.length ≤ fn.ntmps)
    (h : evTop C n L H.next fn.ntmps c (enumE 0 args) H (takeAt b fun ex e O => some (ex, e, O)) = some (ex, e', O)) (hex : ex = .normal ∨ ex = .ret) (hr : resE C.P e' ⟨0, O⟩ fn.results.toList = some vs) :
    ∃ H', (∀ x, x ∈ O → x ∈ H'.objs) ∧ ∀ ρ w args', Inv ρ H w → VRels ρ args args' → Calls C.P f ⟨args'⟩ w fun e w' => ∃ ρ' v', e = .returned v' ∧ VRel ρ' (oneOf vs) v' ∧ Next H.next ρ H w ρ' H' w' := by
  obtain ⟨ex1, e1, H1, g1, g2⟩ := evTop_base hC hmix c hL _ _ _ _ h
  obtain ⟨rfl, rfl, bo, rfl⟩ := take_at g1
  have g3 : BaseOk C.P H.next fn.ntmps H (enumE 0 args) H ex (takeE [4, 5] e1) H1 (fun Q a w => c.wp C.P Q a w) := BaseOk.env g2 (fun t v h => h) fun t v h => getE_take h
  exact ⟨H1, fun x hx => takeO_mem hx, calls_next hf hb hl (BaseOk.code g3) hex (resE_take hr)⟩
theorem old_two {cs : List Value} {sz lo : Nat} {o : AObj} {bo : List Nat} (h0 : 0 ∈ bo) (h1 : 1 ∈ bo) : oldIn lo bo [(0, .cells cs sz), (1, o)] = true := by
  simp only [oldIn, Bool.and_eq_true, Bool.or_eq_true, List.contains_iff_mem, and_true]
  exact ⟨.inr h0, .inr h1⟩
theorem sl_old {cs : List Value} {sz : Nat} {o : AObj} (lo i : Nat) : oldIn lo (slBo i) [(0, .cells cs sz), (1, o)] = true := old_two (by unfold slBo; simp) (by unfold slBo; simp)
theorem md_old {cs : List Value} {sz : Nat} {o : AObj} (lo i : Nat) : oldIn lo (mdBo i) [(0, .cells cs sz), (1, o)] = true := old_two (by unfold mdBo; simp) (by unfold mdBo; simp)
/-- a body of panels in a flow: what is told -/
structure Body (n : Nat) (p : Nat → Pn) (U : Nat → Un) (t : Bool) (m cb : Nat) (f : Nat → El) (o : AObj) (v : Nat → Nat → Nat × Nat) (e : Nat → Nat → Int) (xy : Nat → Nat × Nat) (es : Nat → Int) : Prop where
  of : OfTold n p U
  fl : FlOk t m f
  ob : t = true → ∃ z, o = .cells (elsV f 0 m) z
  flat : ∀ q, renO q o = some o
  rv : ∀ i, i < n → RowV n i p U (v i) (e i)
  pos : ∀ i, i < n → 0 ≤ firstE (e i) 0 n ∧ 0 ≤ es i
  sp : ∀ i, i < n → ∀ (b : Nat) (H : AH), (b, o) ∈ H.objs → FlatCall Tryz.prog 52 [flV b t m cb, .complex .f64 (U i).m1 (U i).m2] H (.tuple ⟨[.complex .f64 (xy i).1 (xy i).2, .int .i64 (es i)]⟩)
/-- a system that may be solved -/
def SysOk (n : Nat) (A : Nat → Nat → Nat) (b : Nat → Nat) : Prop := ∃ B0 D0 : Rat, (∀ r j, r < n → j < n → Le B0 (W0f n A b r j)) ∧ (∀ r, r < n → Le D0 (W0f n A b r n)) ∧ tau ≤ B0 ∧ tau ≤ D0 ∧ B0 * 300 ≤ (2 : Rat) ^ (300 : Int) ∧ D0 * 300 ≤ (2 : Rat) ^ (300 : Int)
section
variable {n : Nat} (P : Pq n) {p : Nat → Pn} {U : Nat → Un} {t : Bool} {m cb : Nat} {f : Nat → El} {o : AObj} {v : Nat → Nat → Nat × Nat} {e : Nat → Nat → Int} {xy : Nat → Nat × Nat} {es : Nat → Int} (B : Body n p U t m cb f o v e xy es)
noncomputable def slR (n : Nat) (p : Nat → Pn) (U : Nat → Un) (res : Nat → RowRes) (so : Option (Nat → Nat)) : Cx := slC n mulK withinK (akT 137 n p U) (rwT n res) (svT n so)
theorem slR_ok {n : Nat} {p : Nat → Pn} {U : Nat → Un} {res : Nat → RowRes} {so : Option (Nat → Nat)} : (slR n p U res so).Ok :=
  uC_ok (.cons k22 h22 (.cons k80 h80 .nil)) .nil (.cons akT_ok h137 (.cons rwT_ok h138 (.cons svW_ok h214 .nil)))
theorem sl_loops {n ca sz : Nat} {p : Nat → Pn} {C : Cx} (hC : C.Ok) (hm : C.P.follows .mixedOrders = true) {cs : List Value} {o : AObj} : ∀ a ∈ loopsIn (codeOf 50), LOkB C.P ⟨2, [(0, .cells cs sz), (1, o)]⟩ (slL n C) a := fun a _ =>
  orL_okB (rollL_ok hC hm 100 a).baseB (slimV_okB (rollS_okB hC hm sl_old fun lo => old_two (by simp) (by simp)) fun lo => sl_old lo 0)
include P B
theorem row_tells (i : Nat) (hi : i < n) (N : Nat) : rowTells n [sliceV 3 n n, .agg ⟨[flX 1 t m cb]⟩, intV i] ⟨N, [(3, .cells (pieC p U 0 n) 0), (1, o)]⟩ (resR n v e xy es i) :=
  row_call (P.rw i hi) hi (B.rv i hi) B.flat (B.sp i hi) (b := 3) (c := 1) (by decide) List.mem_cons_self (List.mem_cons_of_mem _ List.mem_cons_self)
/-- what Solve answers -/
def SlErr (n : Nat) (p : Nat → Pn) (t : Bool) (m cb : Nat) (o : AObj) : Prop := ∃ e : Int, 0 < e ∧ ∀ (b c ca sz : Nat) (H : AH), b ≠ c → (b, .cells (panC p 0 n) sz) ∈ H.objs → (c, o) ∈ H.objs → MemCall Tryz.prog 50 [sliceV b n ca, .agg ⟨[flX c t m cb]⟩] H (.tuple ⟨[nilS, .int .i64 e]⟩) H
def SlOk (n : Nat) (p : Nat → Pn) (t : Bool) (m cb : Nat) (o : AObj) (xs : Nat → Nat) : Prop := ∀ (b c ca sz : Nat) (H : AH), b ≠ c → (b, .cells (panC p 0 n) sz) ∈ H.objs → (c, o) ∈ H.objs →
  MemCall Tryz.prog 50 [sliceV b n ca, .agg ⟨[flX c t m cb]⟩] H (.tuple ⟨[sliceV H.next n n, .int .i64 0]⟩) ⟨H.next + 1, (H.next, .cells (panC (setS p xs) 0 n) 3) :: H.objs⟩
theorem sl_run {res : Nat → RowRes} {so : Option (Nat → Nat)} {ca sz : Nat} : evTop (slR n p U res so) 100 (slL n (slR n p U res so)) 2 116 (codeOf 50) (enumE 0 [sliceV 0 n ca, .agg ⟨[flX 1 t m cb]⟩]) ⟨2, [(0, .cells (panC p 0 n) sz), (1, o)]⟩ (takeAt (7 * n + 5) fun ex e O => some (ex, e, O)) =
    rowsK n mulK (rwT n res) p U (.agg ⟨[flX 1 t m cb]⟩) o (fun e => some (Ex.ret, noS e, [])) n 0 (fun _ _ => 0) (fun _ => 0) fun A b =>
      svT n so (Ex × Env × Objs) [fieldV, sliceV (7 * n + 1) n n, sliceV (7 * n + 3) n n] (svH n A b) (some (.ret, noS 141, [])) fun xs => wiK withinK xs (some (.ret, noS 6, [])) (some (.ret, [(4, sliceV (7 * n + 5) n n), (5, .int .i64 0)], [(7 * n + 5, .cells (panC (setS p xs) 0 n) 3)])) n 0 := by
  refine (sl_eq P.sl (R := Ex × Env × Objs) (mu := mulK) (wi := withinK) (ak := akT 137 n p U) (rw_ := rwT n res) (sv := svT n so) (p := p) (X := flX 1 t m cb) (ca := ca) (sz := sz) (o := o) (K := fun ex e O => some (ex, e, O))).trans ?_
  exact akT_eq (ask_call P B.of B.fl B.ob B.flat (b := 0) (c := 1) (sz := sz) (by decide) List.mem_cons_self (List.mem_cons_of_mem _ List.mem_cons_self))
omit P in
theorem two_in {b c sz : Nat} {H : AH} (hne : b ≠ c) (hb : (b, .cells (panC p 0 n) sz) ∈ H.objs) (hc : (c, o) ∈ H.objs) : Within (two b c) ⟨2, [(0, .cells (panC p 0 n) sz), (1, o)]⟩ H := within_two (panC_flat p n 0) B.flat hne hb hc
theorem sl_err {res : Nat → RowRes} {so : Option (Nat → Nat)} {e0 : Int} (h0 : 0 < e0) (h : ∀ ca sz, evTop (slR n p U res so) 100 (slL n (slR n p U res so)) 2 116 (codeOf 50) (enumE 0 [sliceV 0 n ca, .agg ⟨[flX 1 t m cb]⟩]) ⟨2, [(0, .cells (panC p 0 n) sz), (1, o)]⟩ (takeAt (7 * n + 5) fun ex e O => some (ex, e, O)) = some (.ret, noS e0, [])) : SlErr n p t m cb o := ⟨e0, h0, fun b c ca sz H hne hb hc => by
    obtain ⟨H', hO, g⟩ := fun_at (C := slR n p U res so) (H := ⟨2, [(0, .cells (panC p 0 n) sz), (1, o)]⟩) (b := 7 * n + 5) slR_ok zm_ok Tryz.func50 b50 (sl_loops (n := n) (ca := ca) (p := p) slR_ok zm_ok) (Nat.le_of_ble_eq_true rfl) (h ca sz) (.inr rfl) (vs := [nilS, .int .i64 e0]) rfl
    exact lift_none (two_in B hne hb hc) ren_args rfl g⟩
theorem sl_good {res : Nat → RowRes} {so : Option (Nat → Nat)} {xs : Nat → Nat} (h : ∀ ca sz, evTop (slR n p U res so) 100 (slL n (slR n p U res so)) 2 116 (codeOf 50) (enumE 0 [sliceV 0 n ca, .agg ⟨[flX 1 t m cb]⟩]) ⟨2, [(0, .cells (panC p 0 n) sz), (1, o)]⟩ (takeAt (7 * n + 5) fun ex e O => some (ex, e, O)) =
    some (.ret, [(4, sliceV (7 * n + 5) n n), (5, .int .i64 0)], [(7 * n + 5, .cells (panC (setS p xs) 0 n) 3)])) : SlOk n p t m cb o xs := fun b c ca sz H hne hb hc => by
  obtain ⟨H', hO, g⟩ := fun_at (C := slR n p U res so) (H := ⟨2, [(0, .cells (panC p 0 n) sz), (1, o)]⟩) (b := 7 * n + 5) slR_ok zm_ok Tryz.func50 b50 (sl_loops (n := n) (ca := ca) (p := p) slR_ok zm_ok) (Nat.le_of_ble_eq_true rfl) (h ca sz) (.inr rfl) (vs := [sliceV (7 * n + 5) n n, .int .i64 0]) rfl
  exact lift_one (j := 7 * n + 5) (two_in B hne hb hc) ren_args (show 2 ≤ 7 * n + 5 by omega) (hO _ List.mem_cons_self) (panC_flat _ n 0) (lift_sl (show 2 ≤ 7 * n + 5 by omega)) g
omit P B in
theorem svH_congr {n : Nat} {A A' : Nat → Nat → Nat} {b b' : Nat → Nat} (h : ∀ r, r < n → (∀ j, j < n → A r j = A' r j) ∧ b r = b' r) : svH n A b = svH n A' b' := by
  unfold svH
  rw [upTo_congr (f := fun i => fl (b i)) (g := fun i => fl (b' i)) fun k _ hk => by rw [(h k (by omega)).2]]
  rw [upTo_congr (f := fun i => (6 + 7 * i, AObj.cells (upTo (fun j => fl (A i j)) 0 n) 0)) (g := fun i => (6 + 7 * i, AObj.cells (upTo (fun j => fl (A' i j)) 0 n) 0)) fun k _ hk => by
    rw [upTo_congr (f := fun j => fl (A k j)) (g := fun j => fl (A' k j)) fun j _ hj => by rw [(h k (by omega)).1 j (by omega)]]]
theorem solve_call (hn1 : 3 ≤ n) (hn : n ≤ 8) {cA : Nat → Nat → Nat} {cB : Nat → Nat} (hd : ∀ i, i < n → okRow n e es i → RowD n U v xy cA cB i) (hS : (∀ i, i < n → okRow n e es i) → SysOk n (matA cA) (vecB cB)) :
    SlErr n p t m cb o ∨ ((∀ i, i < n → okRow n e es i) ∧ ∃ xs, solR n (W0f n (matA cA) (vecB cB)) = some xs ∧ allIn xs n 0 = true ∧ SlOk n p t m cb o xs) := by
  rcases rows_told B.pos (p := p) (U := U) (fv := .agg ⟨[flX 1 t m cb]⟩) (o := o) hd (fun i hi => row_tells P B i hi _) n 0 (fun _ _ => 0) (fun _ => 0) (by omega) (fun r hr => by omega) with ⟨e0, h0, h1⟩ | ⟨hok, h1⟩
  · exact .inl (sl_err P B (res := resR n v e xy es) (so := none) h0 fun ca sz => (sl_run P B).trans (h1 _ _ _))
  · obtain ⟨B0, D0, s1, s2, s3, s4, s5, s6⟩ := hS hok
    have Q := eqq n hn1 hn
    have main : ∀ ca sz, evTop (slR n p U (resR n v e xy es) (solR n (W0f n (matA cA) (vecB cB)))) 100 (slL n (slR n p U (resR n v e xy es) (solR n (W0f n (matA cA) (vecB cB))))) 2 116 (codeOf 50) (enumE 0 [sliceV 0 n ca, .agg ⟨[flX 1 t m cb]⟩]) ⟨2, [(0, .cells (panC p 0 n) sz), (1, o)]⟩ (takeAt (7 * n + 5) fun ex e O => some (ex, e, O)) =
        (match solR n (W0f n (matA cA) (vecB cB)) with
        | none => some (.ret, noS 141, [])
        | some xs => bif allIn xs n 0 then some (.ret, [(4, sliceV (7 * n + 5) n n), (5, .int .i64 0)], [(7 * n + 5, .cells (panC (setS p xs) 0 n) 3)]) else some (.ret, noS 6, [])) := fun ca sz => by
      refine (sl_run P B).trans ((h1 _ _ _ fun A b hAb => ?_).trans ?_)
      · rw [svH_congr hAb]
      · rw [solved_told P.sy s1 s2 hn s3 s4 s5 s6 (sA := 1) (sr := 0) (sb := 1) (ca := n) (cb := n) (within_sv Q (A := matA cA) (b := vecB cB)) Q.args (R := Ex × Env × Objs)]
        cases solR n (W0f n (matA cA) (vecB cB)) with
        | none => rfl
        | some xs =>
          simp only
          rw [wiK_told]
    cases hso : solR n (W0f n (matA cA) (vecB cB)) with
    | none =>
      refine .inl (sl_err P B (e0 := 141) (by decide) fun ca sz => (main ca sz).trans ?_)
      rw [hso]
    | some xs =>
      cases hin : allIn xs n 0 with
      | false =>
        refine .inl (sl_err P B (e0 := 6) (by decide) fun ca sz => (main ca sz).trans ?_)
        rw [hso]
        simp only [hin]
        rfl
      | true =>
        refine .inr ⟨hok, xs, rfl, hin, sl_good P B fun ca sz => (main ca sz).trans ?_⟩
        rw [hso]
        simp only [hin]
        rfl
end
end Go.Vm
namespace Go.Vm
open Go.Proofs
set_option linter.unusedVariables false
set_option linter.unusedSectionVars false
set_option linter.unusedSimpArgs false
set_option maxRecDepth 1000000

/-! ### math.Max -/
def pkW (x y : Nat) : Nat :=
  let a := FloatKind.f64.decode x
  let b := FloatKind.f64.decode y
  if a == .infinity false || b == .infinity false then FloatKind.f64.encode (.infinity false)
  else if a.isNaN || b.isNaN then 0x7FF8000000000001
  else if a.isZero && b.isZero then (if a.neg == false then x else y)
  else if a.order b == some .gt then x else y
def pkK : KFFF := fun R x y k => k (pkW x y)
theorem e212 : ExtOk Tryz.prog 212 (sFFF pkK) := by
  intro R args k r hr
  unfold sFFF at hr; split at hr
  · rename_i x y
    exact ⟨rfl, _, hr, rfl, fun w => run_ext Tryz.func212 (by kernel_rfl) (by kernel_rfl) (show Extern.find Tryz.f212 = some (Extern.MathDim.pick "math.archMax" false .gt) by kernel_rfl) (by kernel_rfl) rfl w⟩
  · cases hr
theorem z_max (mx : KFFF) (R : Type) (a b : Nat) (k : Value → Option R) : evFn (cxf fiReal Tryz.prog [] [(212, sFFF mx)]) 60 131 [.float .f64 a, .float .f64 b] k = mx R a b fun x => k (.float .f64 x) := by kernel_rfl
theorem k131 : SumOk Tryz.prog 131 (sFFF pkK) := sumOk_exts (l := []) (es := [(212, sFFF pkK)]) (n := 60) zm_ok .nil (exts_ok (.cons e212 .nil)) fun R args k r hr => by
  unfold sFFF at hr; split at hr
  · exact ⟨rfl, (z_max _ R _ _ k).trans hr⟩
  · cases hr
theorem h131 : Has Tryz.prog 131 := ⟨Tryz.f131, _, Tryz.func131, by kernel_rfl, rfl⟩
/-! ### middles -/
theorem foldP_congr {add : KCCC} {v w : Nat → Nat × Nat} {R : Type} {k : Nat → Nat → Option R} : ∀ m j a b, (∀ l, j ≤ l → l < j + m → v l = w l) → foldP add v m j a b k = foldP add w m j a b k
  | 0, _, _, _, _ => rfl
  | m + 1, j, a, b, h => by
    simp only [foldP]
    rw [h j (Nat.le_refl _) (by omega)]
    congr 1
    funext x y
    exact foldP_congr m (j + 1) x y fun l h1 h2 => h l (by omega) (by omega)
theorem sumP_congr {add : KCCC} {v w : Nat → Nat × Nat} {n : Nat} {R : Type} {k : Nat → Nat → Option R} (h : ∀ l, l < n → v l = w l) : sumP add v n k = sumP add w n k := by
  cases n with
  | zero => rfl
  | succ m =>
    simp only [sumP]
    rw [h 0 (by omega)]
    exact foldP_congr m 1 _ _ fun l h1 h2 => h l (by omega)
/-- what a row comes to, with strengths -/
structure MidD (n : Nat) (U : Nat → Un) (v : Nat → Nat → Nat × Nat) (xy : Nat → Nat × Nat) (xs : Nat → Nat) (w : Nat → Nat → Nat × Nat) (S T z : Nat → Nat × Nat) (i : Nat) : Prop where
  sc : ∀ j, j < n → ∀ (R : Type) (k : Nat → Nat → Option R), sclK R (v i j).1 (v i j).2 (xs j) k = k (w i j).1 (w i j).2
  sm : ∀ (R : Type) (k : Nat → Nat → Option R), sumP addK (w i) n k = k (S i).1 (S i).2
  ad : ∀ (R : Type) (k : Nat → Nat → Option R), addK R (xy i).1 (xy i).2 (S i).1 (S i).2 k = k (T i).1 (T i).2
  mu : ∀ (R : Type) (k : Nat → Nat → Option R), mulK R (T i).1 (T i).2 (U i).u1 (U i).u2 k = k (z i).1 (z i).2
section
variable {n : Nat} {U : Nat → Un} {v : Nat → Nat → Nat × Nat} {e : Nat → Nat → Int} {xy : Nat → Nat × Nat} {es : Nat → Int} {p : Nat → Pn} {fv : Value} {o : AObj} {xs : Nat → Nat} {w : Nat → Nat → Nat × Nat} {S T z : Nat → Nat × Nat}
theorem scRow_told {i : Nat} (h : MidD n U v xy xs w S T z i) : ∀ (m j : Nat) (a : Nat → Nat × Nat), j + m = n → (∀ l, l < j → a l = w i l) → (∀ l, j ≤ l → a l = v i l) →
    ∃ a', (∀ l, l < n → a' l = w i l) ∧ ∀ (R : Type) (k : (Nat → Nat × Nat) → Option R), scRow sclK (setS p xs) m j a k = k a'
  | 0, j, a, hj, ha, _ => ⟨a, fun l hl => ha l (by omega), fun R k => rfl⟩
  | m + 1, j, a, hj, ha, hb => by
    obtain ⟨a', h1, h2⟩ := scRow_told h m (j + 1) (updP a j (w i j)) (by omega) (fun l hl => by
      by_cases hlj : l = j
      · rw [hlj, updP_eq]
      · rw [updP_ne hlj]; exact ha l (by omega)) (fun l hl => by rw [updP_ne (by omega)]; exact hb l (by omega))
    refine ⟨a', h1, fun R k => ?_⟩
    simp only [scRow]
    rw [hb j (Nat.le_refl _)]
    show sclK R (v i j).1 (v i j).2 (xs j) _ = _
    rw [h.sc j (by omega)]
    exact h2 R k
theorem mid_told (hok : ∀ i, i < n → okRow n e es i) (hd : ∀ i, i < n → MidD n U v xy xs w S T z i) (ht : ∀ i, i < n → rowTells n [sliceV 3 n n, fv, intV i] ⟨6 + 2 * i, [(3, .cells (pieC (setS p xs) U 0 n) 0), (1, o)]⟩ (resR n v e xy es i)) :
    ∀ (m i : Nat) (a : Nat → Nat × Nat), i + m = n → (∀ r, r < i → a r = z r) →
      ∃ a', (∀ r, r < n → a' r = z r) ∧ ∀ (R : Type) (er : Int → Option R) (k : (Nat → Nat × Nat) → Option R), midK n mulK addK sclK (rwT n (resR n v e xy es)) (setS p xs) U fv o er m i a k = k a'
  | 0, i, a, hi, ha => ⟨a, fun r hr => ha r (by omega), fun R er k => rfl⟩
  | m + 1, i, a, hi, ha => by
    have D := hd i (by omega)
    obtain ⟨b, hb, hm⟩ := scRow_told (p := p) D n 0 (v i) (by omega) (fun l hl => by omega) (fun l hl => rfl)
    obtain ⟨a', h1, h2⟩ := mid_told hok hd ht m (i + 1) (updP a i (z i)) (by omega) (fun r hr => by
      by_cases hri : r = i
      · rw [hri, updP_eq]
      · rw [updP_ne hri]; exact ha r (by omega))
    refine ⟨a', h1, fun R er k => ?_⟩
    have hr : resR n v e xy es i = .ok (v i) (xy i).1 (xy i).2 := by
      rcases res_cases (n := n) (v := v) (e := e) (xy := xy) (es := es) i with ⟨_, h⟩ | ⟨h, _⟩
      · exact h
      · exact absurd (hok i (by omega)) h
    simp only [midK]
    rw [rwT_eq (ht i (by omega)), hr]
    simp only [RowRes.go]
    rw [hm, sumP_congr (v := b) (w := w i) hb, D.sm, D.ad, D.mu]
    exact h2 R er k
end
noncomputable def mdR (n : Nat) (p : Nat → Pn) (U : Nat → Un) (res : Nat → RowRes) : Cx := mdC n mulK addK sclK (akT 137 n p U) (rwT n res)
theorem mdR_ok {n : Nat} {p : Nat → Pn} {U : Nat → Un} {res : Nat → RowRes} : (mdR n p U res).Ok :=
  uC_ok (.cons k22 h22 (.cons k39 h39 (.cons k84 h84 .nil))) .nil (.cons akT_ok h137 (.cons rwT_ok h138 .nil))
theorem md_loops {n : Nat} {C : Cx} (hC : C.Ok) (hm : C.P.follows .mixedOrders = true) {cs : List Value} {sz : Nat} {o : AObj} : ∀ a ∈ loopsIn (codeOf 140), LOkB C.P ⟨2, [(0, .cells cs sz), (1, o)]⟩ (mdL n C) a := fun a _ =>
  slimV_okB (rollS_okB hC hm md_old fun lo => old_two (by simp) (by simp)) fun lo => md_old lo 0
def MdOk (n : Nat) (p : Nat → Pn) (t : Bool) (m cb : Nat) (o : AObj) (z : Nat → Nat × Nat) : Prop := ∀ (b c ca sz : Nat) (H : AH), b ≠ c → (b, .cells (panC p 0 n) sz) ∈ H.objs → (c, o) ∈ H.objs →
  MemCall Tryz.prog 140 [sliceV b n ca, .agg ⟨[flX c t m cb]⟩] H (.tuple ⟨[sliceV H.next n n, .int .i64 0]⟩) ⟨H.next + 1, (H.next, .cells (cxL z 0 n) 0) :: H.objs⟩
section
variable {n : Nat} (P : Pq n) {p : Nat → Pn} {U : Nat → Un} {t : Bool} {m cb : Nat} {f : Nat → El} {o : AObj} {v : Nat → Nat → Nat × Nat} {e : Nat → Nat → Int} {xy : Nat → Nat × Nat} {es : Nat → Int} {xs : Nat → Nat} (B : Body n (setS p xs) U t m cb f o v e xy es)
  {w : Nat → Nat → Nat × Nat} {S T z : Nat → Nat × Nat} (hok : ∀ i, i < n → okRow n e es i) (hd : ∀ i, i < n → MidD n U v xy xs w S T z i)
include P B hok hd
theorem mid_call : MdOk n (setS p xs) t m cb o z := fun b c ca sz H hne hb hc => by
  obtain ⟨a', h1, h2⟩ := mid_told (p := p) (fv := .agg ⟨[flX 1 t m cb]⟩) (o := o) hok hd (fun i hi => row_tells P B i hi _) n 0 (fun _ => (0, 0)) (by omega) (fun r hr => by omega)
  have h : evTop (mdR n (setS p xs) U (resR n v e xy es)) 100 (mdL n (mdR n (setS p xs) U (resR n v e xy es))) 2 77 (codeOf 140) (enumE 0 [sliceV 0 n ca, .agg ⟨[flX 1 t m cb]⟩]) ⟨2, [(0, .cells (panC (setS p xs) 0 n) sz), (1, o)]⟩ (takeAt 4 fun ex e O => some (ex, e, O)) =
      some (.ret, [(4, sliceV 4 n n), (5, .int .i64 0)], [(4, .cells (cxL z 0 n) 0)]) := by
    refine (md_eq P.md (R := Ex × Env × Objs) (mu := mulK) (add := addK) (sc := sclK) (ak := akT 137 n (setS p xs) U) (rw_ := rwT n (resR n v e xy es)) (p := setS p xs) (X := flX 1 t m cb) (ca := ca) (sz := sz) (o := o) (K := fun ex e O => some (ex, e, O))).trans ?_
    refine (akT_eq (ask_call P B.of B.fl B.ob B.flat (b := 0) (c := 1) (sz := sz) (by decide) List.mem_cons_self (List.mem_cons_of_mem _ List.mem_cons_self))).trans ?_
    rw [h2]
    rw [cxL_congr n 0 fun j _ hj => h1 j (by omega)]
  obtain ⟨H', hO, g⟩ := fun_at (C := mdR n (setS p xs) U (resR n v e xy es)) (H := ⟨2, [(0, .cells (panC (setS p xs) 0 n) sz), (1, o)]⟩) (b := 4) mdR_ok zm_ok Tryz.func140 b140 (md_loops mdR_ok zm_ok) (Nat.le_of_ble_eq_true rfl) h (.inr rfl) (vs := [sliceV 4 n n, .int .i64 0]) rfl
  exact lift_one (j := 4) (within_two (panC_flat _ n 0) B.flat hne hb hc) ren_args (show 2 ≤ 4 by decide) (hO _ List.mem_cons_self) (cxL_flat _ n 0) (lift_sl (show 2 ≤ 4 by decide)) g
end
/-! ### Through -/
noncomputable def mdT (n : Nat) (z : Nat → Nat × Nat) : KMd := fun R args H er ok =>
  open Classical in if MemCall Tryz.prog 140 args H (.tuple ⟨[sliceV H.next n n, .int .i64 0]⟩) ⟨H.next + 1, (H.next, .cells (cxL z 0 n) 0) :: H.objs⟩ then ok z else none
theorem mdT_eq {n : Nat} {z : Nat → Nat × Nat} {R : Type} {args : List Value} {H : AH} {er : Int → Option R} {ok : (Nat → Nat × Nat) → Option R} (h : MemCall Tryz.prog 140 args H (.tuple ⟨[sliceV H.next n n, .int .i64 0]⟩) ⟨H.next + 1, (H.next, .cells (cxL z 0 n) 0) :: H.objs⟩) : mdT n z R args H er ok = ok z := by
  unfold mdT
  rw [if_pos h]
theorem mdT_ok {n : Nat} {bs : List Nat} {z : Nat → Nat × Nat} : MSumOk Tryz.prog 140 (sMd n bs (mdT n z)) := fun R args H k r h => by
  unfold sMd mdT at h
  split at h
  · rename_i hc
    exact ⟨_, _, h, MemCall.sup (O := takeO bs H.objs) (A := [(H.next, .cells (cxL z 0 n) 0)]) hc (fun x hx => takeO_mem hx) fun k o hk => by
      simp only [List.mem_cons, List.not_mem_nil, or_false] at hk
      cases hk
      exact Nat.le_refl _⟩
  · cases h
def mxW (z : Nat → Nat × Nat) : Nat → Nat → Nat → Nat
  | 0, _, m => m
  | n + 1, i, m => mxW z n (i + 1) (pkW m (absW (z i).2))
theorem maxK_told {R : Type} {z : Nat → Nat × Nat} {k : Nat → Option R} : ∀ n i m, maxK absK pkK z n i m k = k (mxW z n i m)
  | 0, _, _ => rfl
  | n + 1, i, m => maxK_told n (i + 1) (pkW m (absW (z i).2))
noncomputable def tgR (n : Nat) (z : Nat → Nat × Nat) : Cx := tgC n absK pkK (fFT finiteK) (mdT n z)
theorem tgR_ok {n : Nat} {z : Nat → Nat × Nat} : (tgR n z).Ok := uC_ok (.cons k53 h53 (.cons k131 h131 (.cons k141t h141 .nil))) .nil (.cons mdT_ok h140 .nil)
theorem through_call {n : Nat} (Q : EqTh n) {p : Nat → Pn} {t : Bool} {m cb : Nat} {o : AObj} (hflat : ∀ q, renO q o = some o) {z : Nat → Nat × Nat} (h : MdOk n p t m cb o z) (hM : Fin (mxW z n 0 0)) {b c ca sz : Nat} {H : AH} (hne : b ≠ c) (hb : (b, .cells (panC p 0 n) sz) ∈ H.objs) (hc : (c, o) ∈ H.objs) :
    FlatCall Tryz.prog 51 [sliceV b n ca, .agg ⟨[flX c t m cb]⟩] H (.tuple ⟨[fl (mxW z n 0 0), .int .i64 0]⟩) := by
  have h1 := Q (Ex × Env × Objs) absK pkK (fFT finiteK) (mdT n z) p (flX 1 t m cb) ca sz o fun ex e O => some (ex, e, O)
  rw [mdT_eq (h 0 1 ca sz ⟨3, [(0, .cells (panC p 0 n) sz), (1, o)]⟩ (by decide) List.mem_cons_self (List.mem_cons_of_mem _ List.mem_cons_self))] at h1
  rw [maxK_told] at h1
  have hf : ∀ (R : Type) (k : Option R), fFT finiteK R (mxW z n 0 0) k = k := fun R k => by
    show finiteK R (mxW z n 0 0) (fun t => yesB k t) = k
    rw [finiteK_yes (vl_is hM)]
    rfl
  rw [hf] at h1
  have := fun_flat (C := tgR n z) (H := ⟨2, [(0, .cells (panC p 0 n) sz), (1, o)]⟩) tgR_ok zm_ok Tryz.func51 b51 (fun a _ => rollL_ok tgR_ok zm_ok 100 a) (Nat.le_of_ble_eq_true rfl) h1 (.inr rfl) (vs := [fl (mxW z n 0 0), .int .i64 0]) rfl rfl
  exact calls_pull (within_two (panC_flat p n 0) hflat hne hb hc) ren_args this
end Go.Vm
namespace Go.Vm
open Go.Proofs Ieee
set_option linter.unusedVariables false
set_option linter.unusedSimpArgs false

/-! ### Sums of a few words -/
def Inv8 (j : Nat) (A P c : Rat) : Prop := (A - P).abs ≤ (j : Rat) * (eps * c + 2 * tn) ∧ P.abs ≤ c
theorem inv8_add {j : Nat} (hj : j ≤ 8) {A P p c C : Rat} (h : Inv8 j A P c) (hC : (C - (A + p)).abs ≤ eps / 4 * (A.abs + p.abs) + tn) : Inv8 (j + 1) C (P + p) (c + p.abs) ∧ A.abs ≤ 2 * c + 16 * tn := by
  obtain ⟨h1, h2⟩ := h
  have ep := eps_pos
  have el := eps_le
  have t0 := tn_pos
  have n0 := abs_nonneg P
  have n1 := abs_nonneg p
  have c0 : 0 ≤ c := by grind
  have j8 : (j : Rat) ≤ 8 := by exact_mod_cast hj
  have j0 : (0 : Rat) ≤ (j : Rat) := by exact_mod_cast Nat.zero_le j
  have ec := Rat.mul_le_mul_of_nonneg_right el c0
  have ec0 := Rat.mul_nonneg (Rat.le_of_lt ep) c0
  have x0 : 0 ≤ eps * c + 2 * tn := by grind
  have e1 := Rat.mul_le_mul_of_nonneg_right j8 x0
  have a1 := abs_near h1
  have et := Rat.mul_le_mul_of_nonneg_right el (Rat.le_of_lt t0)
  have eel := Rat.mul_le_mul_of_nonneg_left ec (Rat.le_of_lt ep)
  have hA : A.abs ≤ c + 8 * (eps * c + 2 * tn) := by grind
  have hA2 := Rat.mul_le_mul_of_nonneg_left hA (show 0 ≤ eps / 4 by grind)
  refine ⟨⟨?_, by have := abs_add_le P p; grind⟩, ?_⟩
  · have g := abs_add_le (C - (A + p)) (A - P)
    rw [show C - (A + p) + (A - P) = C - (P + p) by grind] at g
    have ep1 := Rat.mul_nonneg (Rat.le_of_lt ep) n1
    have jp := Rat.mul_nonneg j0 ep1
    have e3 : ((j + 1 : Nat) : Rat) * (eps * (c + p.abs) + 2 * tn) = (j : Rat) * (eps * c + 2 * tn) + (j : Rat) * (eps * p.abs) + (eps * c + eps * p.abs + 2 * tn) := by
      rw [show ((j + 1 : Nat) : Rat) = (j : Rat) + 1 by norm_cast]
      grind
    rw [e3]
    have e4 : eps / 4 * (c + 8 * (eps * c + 2 * tn)) = eps * c / 4 + 2 * (eps * (eps * c)) + 4 * (eps * tn) := by grind
    grind
  · grind
theorem foldP_fine {v : Nat → Nat × Nat} {p q : Nat → Rat} (hv : ∀ l, l < 8 → Is (v l).1 (p l) ∧ Is (v l).2 (q l)) : ∀ (m j a b : Nat) (A B P Q c d : Rat), Is a A → Is b B → Inv8 j A P c → Inv8 j B Q d → j + m ≤ 8 →
    3 * (c + sm (fun l => (p l).abs) j m) + 1 ≤ big200 → 3 * (d + sm (fun l => (q l).abs) j m) + 1 ≤ big200 →
    ∃ s1 s2 S1 S2, Is s1 S1 ∧ Is s2 S2 ∧ Inv8 (j + m) S1 (P + sm p j m) (c + sm (fun l => (p l).abs) j m) ∧ Inv8 (j + m) S2 (Q + sm q j m) (d + sm (fun l => (q l).abs) j m) ∧ ∀ (R : Type) (k : Nat → Nat → Option R), foldP addK v m j a b k = k s1 s2
  | 0, j, a, b, A, B, P, Q, c, d, ha, hb, h1, h2, hj, g1, g2 => by
    refine ⟨a, b, A, B, ha, hb, ?_, ?_, fun R k => rfl⟩
    · simp only [sm]; rw [show P + 0 = P by grind, show c + 0 = c by grind]; exact h1
    · simp only [sm]; rw [show Q + 0 = Q by grind, show d + 0 = d by grind]; exact h2
  | m + 1, j, a, b, A, B, P, Q, c, d, ha, hb, h1, h2, hj, g1, g2 => by
    simp only [sm] at g1 g2 ⊢
    have pp := (hv j (by omega)).1
    have qq := (hv j (by omega)).2
    have t0 := tn_pos
    have ts := tn_small
    have el := eps_le
    have n1 := abs_nonneg (p j)
    have n2 := abs_nonneg (q j)
    have s1 := sm_nonneg (f := fun l => (p l).abs) (fun l => abs_nonneg _) m (j + 1)
    have s2 := sm_nonneg (f := fun l => (q l).abs) (fun l => abs_nonneg _) m (j + 1)
    have c0 : 0 ≤ c := Rat.le_trans (abs_nonneg P) h1.2
    have d0 : 0 ≤ d := Rat.le_trans (abs_nonneg Q) h2.2
    have bA : A.abs ≤ 2 * c + 16 * tn := (inv8_add (p := 0) (C := A) (by omega) h1 (by rw [show A - (A + 0) = 0 by grind, abs_zero]; have := abs_nonneg A; have := eps_pos; have := Rat.mul_nonneg (show 0 ≤ eps / 4 by grind) (show 0 ≤ A.abs + 0 by grind); grind)).2
    have bB : B.abs ≤ 2 * d + 16 * tn := (inv8_add (p := 0) (C := B) (by omega) h2 (by rw [show B - (B + 0) = 0 by grind, abs_zero]; have := abs_nonneg B; have := eps_pos; have := Rat.mul_nonneg (show 0 ≤ eps / 4 by grind) (show 0 ≤ B.abs + 0 by grind); grind)).2
    obtain ⟨x, X, f1, i1, e1, _⟩ := fine_add ha pp (by grind)
    obtain ⟨y, Y, f2, i2, e2, _⟩ := fine_add hb qq (by grind)
    obtain ⟨u1, _⟩ := inv8_add (by omega) h1 e1
    obtain ⟨u2, _⟩ := inv8_add (by omega) h2 e2
    obtain ⟨w1, w2, S1, S2, k1, k2, k3, k4, k5⟩ := foldP_fine hv m (j + 1) x y X Y (P + p j) (Q + q j) (c + (p j).abs) (d + (q j).abs) i1 i2 u1 u2 (by omega) (by grind) (by grind)
    refine ⟨w1, w2, S1, S2, k1, k2, ?_, ?_, fun R k => ?_⟩
    · rw [show j + (m + 1) = j + 1 + m by omega, show P + (p j + sm p (j + 1) m) = P + p j + sm p (j + 1) m by grind, show c + ((p j).abs + sm (fun l => (p l).abs) (j + 1) m) = c + (p j).abs + sm (fun l => (p l).abs) (j + 1) m by grind]
      exact k3
    · rw [show j + (m + 1) = j + 1 + m by omega, show Q + (q j + sm q (j + 1) m) = Q + q j + sm q (j + 1) m by grind, show d + ((q j).abs + sm (fun l => (q l).abs) (j + 1) m) = d + (q j).abs + sm (fun l => (q l).abs) (j + 1) m by grind]
      exact k4
    · simp only [foldP]
      unfold addK
      rw [bindF_eq f1, bindF_eq f2]
      exact k5 R k
/-- the sum of a list -/
theorem sumP_fine {v : Nat → Nat × Nat} {p q : Nat → Rat} {n : Nat} (h0 : 0 < n) (hn : n ≤ 8) (hv : ∀ l, l < 8 → Is (v l).1 (p l) ∧ Is (v l).2 (q l)) (g1 : 3 * sm (fun l => (p l).abs) 0 n + 1 ≤ big200) (g2 : 3 * sm (fun l => (q l).abs) 0 n + 1 ≤ big200) :
    ∃ s1 s2 S1 S2, Is s1 S1 ∧ Is s2 S2 ∧ (S1 - sm p 0 n).abs ≤ 8 * (eps * sm (fun l => (p l).abs) 0 n + 2 * tn) ∧ (S2 - sm q 0 n).abs ≤ 8 * (eps * sm (fun l => (q l).abs) 0 n + 2 * tn) ∧ ∀ (R : Type) (k : Nat → Nat → Option R), sumP addK v n k = k s1 s2 := by
  cases n with
  | zero => omega
  | succ m =>
    simp only [sm] at g1 g2 ⊢
    have ini : ∀ x : Rat, Inv8 1 x x x.abs := fun x => ⟨by
      rw [show x - x = 0 by grind, abs_zero]
      have := Rat.mul_nonneg (Rat.le_of_lt eps_pos) (abs_nonneg x)
      have := tn_pos
      have : (0 : Rat) ≤ ((1 : Nat) : Rat) * (eps * x.abs + 2 * tn) := Rat.mul_nonneg (by decide) (by grind)
      exact this, Rat.le_refl⟩
    obtain ⟨s1, s2, S1, S2, k1, k2, k3, k4, k5⟩ := foldP_fine hv m 1 (v 0).1 (v 0).2 (p 0) (q 0) (p 0) (q 0) (p 0).abs (q 0).abs (hv 0 (by decide)).1 (hv 0 (by decide)).2 (ini _) (ini _) (by omega) g1 g2
    have up : ∀ c : Rat, 0 ≤ c → ((1 + m : Nat) : Rat) * (eps * c + 2 * tn) ≤ 8 * (eps * c + 2 * tn) := fun c hc => by
      have h8 : ((1 + m : Nat) : Rat) ≤ 8 := by exact_mod_cast (show 1 + m ≤ 8 by omega)
      refine Rat.mul_le_mul_of_nonneg_right h8 ?_
      have := Rat.mul_nonneg (Rat.le_of_lt eps_pos) hc
      have := tn_pos
      grind
    have n1 := abs_nonneg (p 0)
    have n2 := abs_nonneg (q 0)
    have z1 := sm_nonneg (f := fun l => (p l).abs) (fun l => abs_nonneg _) m 1
    have z2 := sm_nonneg (f := fun l => (q l).abs) (fun l => abs_nonneg _) m 1
    exact ⟨s1, s2, S1, S2, k1, k2, Rat.le_trans k3.1 (up _ (by grind)), Rat.le_trans k4.1 (up _ (by grind)), fun R k => k5 R k⟩
end Go.Vm
