/- A part of the evaluator and of what is told of floats; no conditions. The code of ForceLift's small functions computes just what is told of them; no conditions. What places and speeds about one circle are, listed; no conditions. What is listed of places and speeds about one circle is what the calls answer; no conditions. ForceLift's small functions are what is told of them; no conditions. -/
import Derived.Test.YtnbpfafngidimaaGreatVmRA7
import Derived.Test.YtnbpfafngidimaaGreatVmRE0
import Derived.Test.YtnbpfafngidimaaGreatVmF0
import Derived.Test.YtnbpfafngidimaaGreatProg
import Derived.Test.YtnbpfafngidimaaGreatVmZH
import Derived.Test.YtnbpfafngidimaaGreatVmZ6
namespace Go.Vm
open Go.Proofs
set_option linter.unusedVariables false
set_option linter.unusedSimpArgs false
set_option maxRecDepth 1000000

/-! ### sources -/
def reFn : Value := .func (.func 111) #[] #[]
noncomputable def reA : Code := loopNo (codeOf 109) 0
noncomputable def reC (lim : Nat → Bool) (fi : Fi) (ge : GEl) (st : St) (ap : Ap) (si : KSi) (h : KCC) (gl : List (Nat × HSum)) : Cx :=
  cxM fi Tryz.prog (fun _ _ => none) [(195, sSi si), (111, sCC h)] [] gl [] (mmOf lim [(66, gEl ge)] st ap)
def reE (o n c : Nat) (s : Value) (k : Int) : Env := [(21, .int .i64 k), (20, .int .i64 n), (19, .slice (some ⟨0, o, none⟩) n c), (4, .pointer (some ⟨2, 0, none⟩)), (2, reFn), (9, s)]
section
variable (L : Hand) (fi : Fi) (R : Type) (ge : GEl) (st : St) (ap : Ap) (si : KSi) (h : KCC) (ga gs : HT) (gl : List (Nat × HSum)) (cs os : List Value) (sz o n c j k c1 c2 r z1 z2 : Nat) (s : Value) (K : Ex → Env → Objs → Option R)
theorem re_nil : evTop (reC la0 fi ge st ap si h []) 60 noL 1 44 reA (reE o n c nilS k) ⟨3, clD o n c c1 c2 r ++ [(0, .cells cs sz)]⟩ (takeC [21, 20, 19, 4, 2, 9] [2, 1, 5] K) =
    bif decide ((k : Int) < n) then
      bif decide (0 ≤ (k : Int)) && decide ((k : Int) < n) && true then
        ge R cs (o + k * 4) fun kind a1 a2 s1 s2 p => bif kind == 2 then si R kind a1 a2 c1 c2 r fun v =>
          bif decide (v < 0) then h R s1 s2 fun u1 u2 => fi R (IntKind.i64.wrap (k + 1)) fun i => K .normal (reE o n c (sl3 5 1) i) (clD o n c c1 c2 r ++ [(5, .cells [.complex .f64 u1 u2] 1)])
          else fi R (IntKind.i64.wrap (k + 1)) fun i => K .normal (reE o n c nilS i) (clD o n c c1 c2 r)
          else fi R (IntKind.i64.wrap (k + 1)) fun i => K .normal (reE o n c nilS i) (clD o n c c1 c2 r)
      else none
    else K (.exit 0) (reE o n c nilS k) (clD o n c c1 c2 r) := by kernel_rfl
theorem re_some : evTop (reC oa3 fi ge st ap si h []) 60 noL 1 44 reA (reE o n c (sl3 3 j) k) ⟨4, clD o n c c1 c2 r ++ [(3, .cells os 1), (0, .cells cs sz)]⟩ (takeC [21, 20, 19, 4, 2, 9] [2, 1, 6] K) =
    bif decide ((k : Int) < n) then
      bif decide (0 ≤ (k : Int)) && decide ((k : Int) < n) && true then
        ge R cs (o + k * 4) fun kind a1 a2 s1 s2 p => bif kind == 2 then si R kind a1 a2 c1 c2 r fun v =>
          bif decide (v < 0) then h R s1 s2 fun u1 u2 => ap R 78 os j j [.complex .f64 u1 u2] 0 1 fun os => fi R (IntKind.i64.wrap (k + 1)) fun i => K .normal (reE o n c (sl3 6 (j + 1)) i) (clD o n c c1 c2 r ++ [(6, .cells os 1)])
          else fi R (IntKind.i64.wrap (k + 1)) fun i => K .normal (reE o n c (sl3 3 j) i) (clD o n c c1 c2 r)
          else fi R (IntKind.i64.wrap (k + 1)) fun i => K .normal (reE o n c (sl3 3 j) i) (clD o n c c1 c2 r)
      else none
    else K (.exit 0) (reE o n c (sl3 3 j) k) (clD o n c c1 c2 r) := by kernel_rfl
theorem re_keep : evTop (reC oa3 fi ge st ap si h []) 60 noL 1 44 reA (reE o n c (sl3 3 j) k) ⟨4, clD o n c c1 c2 r ++ [(3, .cells os 1), (0, .cells cs sz)]⟩ (takeC [21, 20, 19, 4, 2, 9] [2, 1, 3] K) =
    bif decide ((k : Int) < n) then
      bif decide (0 ≤ (k : Int)) && decide ((k : Int) < n) && true then
        ge R cs (o + k * 4) fun kind a1 a2 s1 s2 p => bif kind == 2 then si R kind a1 a2 c1 c2 r fun v =>
          bif decide (v < 0) then h R s1 s2 fun u1 u2 => ap R 78 os j j [.complex .f64 u1 u2] 0 1 fun os => fi R (IntKind.i64.wrap (k + 1)) fun i => K .normal (reE o n c (sl3 6 (j + 1)) i) (clD o n c c1 c2 r)
          else fi R (IntKind.i64.wrap (k + 1)) fun i => K .normal (reE o n c (sl3 3 j) i) (clD o n c c1 c2 r ++ [(3, .cells os 1)])
          else fi R (IntKind.i64.wrap (k + 1)) fun i => K .normal (reE o n c (sl3 3 j) i) (clD o n c c1 c2 r ++ [(3, .cells os 1)])
      else none
    else K (.exit 0) (reE o n c (sl3 3 j) k) (clD o n c c1 c2 r ++ [(3, .cells os 1)]) := by kernel_rfl
theorem re_top : evTop (reC la0 fi ge st ap si h [(192, saysV (.int .i64 0) ga), (155, saysV (.complex .f64 z1 z2) gs)]) 60 (slimL [21, 20, 19, 4, 2, 9] [2, 1, 0] L) 1 44 (codeOf 109) (enumE 0 [flowV o n c, ciV c1 c2 r, reFn]) ⟨1, [(0, .cells cs sz)]⟩ (takeC [6, 7] [] K) =
    ga R [flowV o n c, ciV c1 c2 r, .bool true] ⟨3, clD o n c c1 c2 r ++ [(0, .cells cs sz)]⟩ (L R 1 44 reA (reE o n c nilS 0) ⟨3, clD o n c c1 c2 r ++ [(0, .cells cs sz)]⟩
      (leaveE 0 (thenE (fun en H => evTop (reC la0 fi ge st ap si h [(192, saysV (.int .i64 0) ga), (155, saysV (.complex .f64 z1 z2) gs)]) 60 (slimL [21, 20, 19, 4, 2, 9] [2, 1, 0] L) 1 44 (seqN 4 (codeOf 109)) en H (takeC [6, 7] [] K)) (takeC [6, 7] [] K)))) := by kernel_rfl
theorem re_end (H : AH) : evTop (reC la0 fi ge st ap si h [(192, saysV (.int .i64 0) ga), (155, saysV (.complex .f64 z1 z2) gs)]) 60 L 1 44 (seqN 4 (codeOf 109)) (reE o n c s k) H (takeC [6, 7] [] K) =
    gs R [s] H (K .ret [(6, .complex .f64 z1 z2), (7, .int .i64 0)] []) := by kernel_rfl
end
theorem h111 : Has Tryz.prog 111 := ⟨Tryz.f111, _, Tryz.func111, by kernel_rfl, rfl⟩
def reH : KCC := fun R a b k => sclK R a b 4594902181429758083 k
theorem z_overre (sc : KCFC) (R : Type) (a b : Nat) (k : Value → Option R) : evFn (cx Tryz.prog [(39, sCFC sc), (165, sPi)]) 60 111 [.complex .f64 a b] k = sc R a b 4594902181429758083 fun x y => k (.complex .f64 x y) := by kernel_rfl
theorem k111 : SumOk Tryz.prog 111 (sCC reH) := sumOk_of zm_ok (.cons k39 h39 (.cons k165 h165 .nil)) (n := 60) fun R args k r hr => by
  unfold sCC at hr; split at hr
  · exact ⟨rfl, (z_overre sclK R _ _ k).trans hr⟩
  · cases hr
noncomputable def reR (lim : Nat → Bool) (gl : List (Nat × HSum)) : Cx := reC lim fiReal rEl rSt (rAp Tryz.prog) (siC (outC subK lengthK)) reH gl
theorem reR_ok (lim : Nat → Bool) {gl : List (Nat × HSum)} (hg : GsOk Tryz.prog gl) : (reR lim gl).Ok := cxM_ok no_meth (.cons k195 h195 (.cons k111 h111 .nil)) no_ext hg .nil (mmOf_ok lds1)
theorem reA_loops : loopsIn reA = [] := by kernel_rfl
theorem re_body : Tryz.f109.body = some (codeOf 109) := by kernel_rfl
def reZ (hv : El → Nat × Nat) {c1 c2 r : Nat} (S : Sight c1 c2 r) (xs : List El) (k : Nat) : List (Nat × Nat) := ((xs.take k).filter (inB S)).map hv
section
variable {cs : List Value} {sz o n c c1 c2 r : Nat} {xs : List El} (S : Sight c1 c2 r) {hv : El → Nat × Nat}
theorem reZ_step {k : Nat} {x : El} (hk : xs[k]? = some x) : reZ hv S xs (k + 1) = bif inB S x then reZ hv S xs k ++ [hv x] else reZ hv S xs k := by
  unfold reZ
  rw [List.take_add_one, hk, List.filter_append, List.map_append]
  cases h : inB S x with
  | true => simp [h]
  | false => simp [h]
theorem reZ_len (k : Nat) : (reZ hv S xs k).length ≤ k := by
  unfold reZ
  rw [List.length_map]
  have := List.length_filter_le (inB S) (xs.take k)
  rw [List.length_take] at this
  omega
theorem re_step (hx : ElsAt cs o xs) (hn : xs.length < 900000) {k : Nat} {x : El} (hk : xs[k]? = some x) (hs : Seen c1 c2 S.lw x) (hh : ∀ (R : Type) (k : Nat → Nat → Option R), reH R x.s1 x.s2 k = k (hv x).1 (hv x).2) :
    BaseOk Tryz.prog 1 44 ⟨3, clD o xs.length c c1 c2 r ++ [(0, .cells cs sz)]⟩ (reE o xs.length c (zsS (reZ hv S xs k)) k) (zsH (clD o xs.length c c1 c2 r) cs sz (reZ hv S xs k)) .normal
      (reE o xs.length c (zsS (reZ hv S xs (k + 1))) (k + 1 : Nat)) (zsH (clD o xs.length c c1 c2 r) cs sz (reZ hv S xs (k + 1))) (fun Q a w => reA.wp Tryz.prog Q a w) := by
  have hkn := (List.getElem?_eq_some_iff.1 hk).1
  have hl := reZ_len (xs := xs) (hv := hv) S k
  rw [reZ_step S hk]
  generalize reZ hv S xs k = js at hl
  cases js with
  | nil =>
    cases hb : inB S x with
    | true =>
      show BaseOk Tryz.prog 1 44 _ (reE o xs.length c nilS k) ⟨3, clD o xs.length c c1 c2 r ++ [(0, .cells cs sz)]⟩ _ (reE o xs.length c (sl3 3 1) (k + 1 : Nat)) ⟨4, clD o xs.length c c1 c2 r ++ [(3, .cells [.complex .f64 (hv x).1 (hv x).2] 1), (0, .cells cs sz)]⟩ _
      unfold inB at hb
      simp only [Bool.and_eq_true] at hb
      exact round_told (C := reR la0 []) (H0 := ⟨3, clD o xs.length c c1 c2 r ++ [(0, .cells cs sz)]⟩) (e := reE o xs.length c nilS k) (H := ⟨3, clD o xs.length c c1 c2 r ++ [(0, .cells cs sz)]⟩) (n := 60) (ts := [21, 20, 19, 4, 2, 9]) (bo := [2, 1, 5]) (bs := [5])
        (A := clD o xs.length c c1 c2 r ++ [(3, .cells [.complex .f64 (hv x).1 (hv x).2] 1)]) (B := [(0, .cells cs sz)]) (D := clD o xs.length c c1 c2 r) (reR_ok _ .nil) zm_ok reA_loops
        (by unfold reR
            refine (re_nil fiReal _ _ _ _ _ _ cs sz o xs.length c k c1 c2 r _).trans ?_
            rw [decide_eq_true (show (k : Int) < xs.length by omega), cond_true, idx_ok, cond_true, rEl_at hx hk, hb.1, cond_true, siC_at S hs, hb.2, cond_true, hh, fiReal_fair, wrap_up (by omega)]) rfl
        rfl rfl rfl rfl rfl rfl
    | false =>
      show BaseOk Tryz.prog 1 44 _ (reE o xs.length c nilS k) ⟨3, clD o xs.length c c1 c2 r ++ [(0, .cells cs sz)]⟩ _ (reE o xs.length c nilS (k + 1 : Nat)) ⟨3, clD o xs.length c c1 c2 r ++ [(0, .cells cs sz)]⟩ _
      unfold inB at hb
      exact round_told (C := reR la0 []) (H0 := ⟨3, clD o xs.length c c1 c2 r ++ [(0, .cells cs sz)]⟩) (e := reE o xs.length c nilS k) (H := ⟨3, clD o xs.length c c1 c2 r ++ [(0, .cells cs sz)]⟩) (n := 60) (ts := [21, 20, 19, 4, 2, 9]) (bo := [2, 1, 5]) (bs := [])
        (A := clD o xs.length c c1 c2 r) (B := [(0, .cells cs sz)]) (D := clD o xs.length c c1 c2 r) (e1 := reE o xs.length c nilS (k + 1 : Nat)) (O1 := clD o xs.length c c1 c2 r) (reR_ok _ .nil) zm_ok reA_loops
        (by unfold reR
            refine (re_nil fiReal _ _ _ _ _ _ cs sz o xs.length c k c1 c2 r _).trans ?_
            rw [decide_eq_true (show (k : Int) < xs.length by omega), cond_true, idx_ok, cond_true, rEl_at hx hk]
            cases h2 : x.kind == 2 with
            | false => rw [cond_false, fiReal_fair, wrap_up (by omega)]
            | true =>
              rw [h2, Bool.true_and] at hb
              rw [cond_true, siC_at S hs, hb, cond_false, fiReal_fair, wrap_up (by omega)]) rfl
        rfl rfl rfl rfl rfl rfl
  | cons j0 js =>
    cases hb : inB S x with
    | true =>
      show BaseOk Tryz.prog 1 44 _ (reE o xs.length c (sl3 3 (j0 :: js).length) k) ⟨4, clD o xs.length c c1 c2 r ++ [(3, .cells (cxCells (j0 :: js)) 1), (0, .cells cs sz)]⟩ _
        (reE o xs.length c (sl3 3 ((j0 :: js) ++ [hv x]).length) (k + 1 : Nat)) ⟨4, clD o xs.length c c1 c2 r ++ [(3, .cells (cxCells ((j0 :: js) ++ [hv x])) 1), (0, .cells cs sz)]⟩ _
      rw [cx_app, List.length_append]
      have hf : inns 0 (cxCells (j0 :: js) ++ cxCells [hv x]) = true := inns_app (cx_flat _) (cx_flat _)
      unfold inB at hb
      simp only [Bool.and_eq_true] at hb
      exact round_told (C := reR oa3 []) (H0 := ⟨3, clD o xs.length c c1 c2 r ++ [(0, .cells cs sz)]⟩) (e := reE o xs.length c (sl3 3 (j0 :: js).length) k) (H := ⟨4, clD o xs.length c c1 c2 r ++ [(3, .cells (cxCells (j0 :: js)) 1), (0, .cells cs sz)]⟩) (n := 60) (ts := [21, 20, 19, 4, 2, 9]) (bo := [2, 1, 6]) (bs := [6])
        (A := clD o xs.length c c1 c2 r ++ [(3, .cells (cxCells (j0 :: js) ++ cxCells [hv x]) 1)]) (B := [(0, .cells cs sz)]) (D := clD o xs.length c c1 c2 r) (O1 := clD o xs.length c c1 c2 r ++ [(6, .cells (cxCells (j0 :: js) ++ cxCells [hv x]) 1)]) (reR_ok _ .nil) zm_ok reA_loops
        (by unfold reR
            refine (re_some fiReal _ _ _ _ _ _ cs _ sz o xs.length c _ k c1 c2 r _).trans ?_
            rw [decide_eq_true (show (k : Int) < xs.length by omega), cond_true, idx_ok, cond_true, rEl_at hx hk, hb.1, cond_true, siC_at S hs, hb.2, cond_true, hh, ap78_one (cx_len _) (by omega), fiReal_fair, wrap_up (by omega)]
            rfl) rfl
        (by simp only [clD, List.cons_append, List.nil_append, renOs, renO, renL, renV]
            rw [rens_flat hf]
            rfl) rfl rfl rfl rfl rfl
    | false =>
      show BaseOk Tryz.prog 1 44 _ (reE o xs.length c (sl3 3 (j0 :: js).length) k) ⟨4, clD o xs.length c c1 c2 r ++ [(3, .cells (cxCells (j0 :: js)) 1), (0, .cells cs sz)]⟩ _
        (reE o xs.length c (sl3 3 (j0 :: js).length) (k + 1 : Nat)) ⟨4, clD o xs.length c c1 c2 r ++ [(3, .cells (cxCells (j0 :: js)) 1), (0, .cells cs sz)]⟩ _
      unfold inB at hb
      exact round_told (C := reR oa3 []) (H0 := ⟨3, clD o xs.length c c1 c2 r ++ [(0, .cells cs sz)]⟩) (e := reE o xs.length c (sl3 3 (j0 :: js).length) k) (H := ⟨4, clD o xs.length c c1 c2 r ++ [(3, .cells (cxCells (j0 :: js)) 1), (0, .cells cs sz)]⟩) (n := 60) (ts := [21, 20, 19, 4, 2, 9]) (bo := [2, 1, 3]) (bs := [3])
        (A := clD o xs.length c c1 c2 r ++ [(3, .cells (cxCells (j0 :: js)) 1)]) (B := [(0, .cells cs sz)]) (D := clD o xs.length c c1 c2 r) (e1 := reE o xs.length c (sl3 3 (j0 :: js).length) (k + 1 : Nat)) (O1 := clD o xs.length c c1 c2 r ++ [(3, .cells (cxCells (j0 :: js)) 1)]) (reR_ok _ .nil) zm_ok reA_loops
        (by unfold reR
            refine (re_keep fiReal _ _ _ _ _ _ cs _ sz o xs.length c _ k c1 c2 r _).trans ?_
            rw [decide_eq_true (show (k : Int) < xs.length by omega), cond_true, idx_ok, cond_true, rEl_at hx hk]
            cases h2 : x.kind == 2 with
            | false => rw [cond_false, fiReal_fair, wrap_up (by omega)]
            | true =>
              rw [h2, Bool.true_and] at hb
              rw [cond_true, siC_at S hs, hb, cond_false, fiReal_fair, wrap_up (by omega)]) rfl
        (by simp only [clD, List.cons_append, List.nil_append, renOs, renO, renL, renV]
            rw [rens_flat (cx_flat _)]
            rfl) rfl rfl rfl rfl rfl
theorem re_last (js : List (Nat × Nat)) :
    BaseOk Tryz.prog 1 44 ⟨3, clD o n c c1 c2 r ++ [(0, .cells cs sz)]⟩ (reE o n c (zsS js) n) (zsH (clD o n c c1 c2 r) cs sz js) (.exit 0) (reE o n c (zsS js) n) (zsH (clD o n c c1 c2 r) cs sz js) (fun Q a w => reA.wp Tryz.prog Q a w) := by
  cases js with
  | nil =>
    exact round_told (C := reR la0 []) (H0 := ⟨3, clD o n c c1 c2 r ++ [(0, .cells cs sz)]⟩) (e := reE o n c nilS n) (H := ⟨3, clD o n c c1 c2 r ++ [(0, .cells cs sz)]⟩) (n := 60) (ts := [21, 20, 19, 4, 2, 9]) (bo := [2, 1, 5]) (bs := [])
        (A := clD o n c c1 c2 r) (B := [(0, .cells cs sz)]) (D := clD o n c c1 c2 r) (reR_ok _ .nil) zm_ok reA_loops
        (by unfold reR
            refine (re_nil fiReal _ _ _ _ _ _ cs sz o n c n c1 c2 r _).trans ?_
            rw [decide_eq_false (by omega)]; rfl) rfl
        rfl rfl rfl rfl rfl rfl
  | cons j0 js =>
    exact round_told (C := reR oa3 []) (H0 := ⟨3, clD o n c c1 c2 r ++ [(0, .cells cs sz)]⟩) (e := reE o n c (sl3 3 (j0 :: js).length) n) (H := ⟨4, clD o n c c1 c2 r ++ [(3, .cells (cxCells (j0 :: js)) 1), (0, .cells cs sz)]⟩) (n := 60) (ts := [21, 20, 19, 4, 2, 9]) (bo := [2, 1, 3]) (bs := [3])
        (A := clD o n c c1 c2 r ++ [(3, .cells (cxCells (j0 :: js)) 1)]) (B := [(0, .cells cs sz)]) (D := clD o n c c1 c2 r) (O1 := clD o n c c1 c2 r ++ [(3, .cells (cxCells (j0 :: js)) 1)]) (reR_ok _ .nil) zm_ok reA_loops
        (by unfold reR
            refine (re_keep fiReal _ _ _ _ _ _ cs _ sz o n c _ n c1 c2 r _).trans ?_
            rw [decide_eq_false (by omega)]; rfl) rfl
        (by simp only [clD, List.cons_append, List.nil_append, renOs, renO, renL, renV]
            rw [rens_flat (cx_flat _)]
            rfl) rfl rfl rfl rfl rfl
theorem re_call (hx : ElsAt cs o xs) (hn : xs.length < 900000) (hs : ∀ x ∈ xs, Seen c1 c2 S.lw x) (hh : ∀ x ∈ xs, ∀ (R : Type) (k : Nat → Nat → Option R), reH R x.s1 x.s2 k = k (hv x).1 (hv x).2) (hf : inns 0 cs = true)
    (hc : FlatCall Tryz.prog 192 [flowV o xs.length c, ciV c1 c2 r, .bool true] ⟨1, [(0, .cells cs sz)]⟩ (.int .i64 0)) {f : Nat → Nat × Nat} (hsum : SumT (reZ hv S xs xs.length) f) :
    FlatCall Tryz.prog 109 [flowV o xs.length c, ciV c1 c2 r, reFn] ⟨1, [(0, .cells cs sz)]⟩ (.tuple ⟨[.complex .f64 (f (reZ hv S xs xs.length).length).1 (f (reZ hv S xs xs.length).length).2, .int .i64 0]⟩) := by
  have hc' : FlatCall Tryz.prog 192 [flowV o xs.length c, ciV c1 c2 r, .bool true] ⟨3, clD o xs.length c c1 c2 r ++ [(0, .cells cs sz)]⟩ (.int .i64 0) := FlatCall.one hc hf (by simp) rfl
  have hB : BaseRounds Tryz.prog 1 44 ⟨3, clD o xs.length c c1 c2 r ++ [(0, .cells cs sz)]⟩ reA (reE o xs.length c nilS (0 : Nat)) ⟨3, clD o xs.length c c1 c2 r ++ [(0, .cells cs sz)]⟩ (.exit 0) (reE o xs.length c (zsS (reZ hv S xs xs.length)) xs.length) (zsH (clD o xs.length c c1 c2 r) cs sz (reZ hv S xs xs.length)) :=
    base_count (P := Tryz.prog) (lo := 1) (sz := 44) (a := reA) (H0 := ⟨3, clD o xs.length c c1 c2 r ++ [(0, .cells cs sz)]⟩) (E := fun k : Nat => reE o xs.length c (zsS (reZ hv S xs k)) k) (H := fun k => zsH (clD o xs.length c c1 c2 r) cs sz (reZ hv S xs k)) (ex := .exit 0)
      (e' := reE o xs.length c (zsS (reZ hv S xs xs.length)) xs.length) (H' := zsH (clD o xs.length c c1 c2 r) cs sz (reZ hv S xs xs.length)) xs.length 0 (fun k _ hk => by
        have hk' := List.getElem?_eq_getElem (show k < xs.length by omega)
        exact re_step S hx hn hk' (hs _ (List.getElem_mem _)) (hh _ (List.getElem_mem _))) (base_end (by intro h; cases h) (by simp only [Nat.zero_add]; exact re_last _))
  have hB' := @base_loop _ _ _ _ _ _ _ _ _ hB
  have hlen := reZ_len (xs := xs) (hv := hv) S xs.length
  generalize reZ hv S xs xs.length = js at hB' hsum hlen
  have h := re_top (told Tryz.prog (.exit 0) (reE o xs.length c (zsS js) xs.length) (zsH (clD o xs.length c c1 c2 r) cs sz js)) fiReal (Ex × Env × Objs) rEl rSt (rAp Tryz.prog) (siC (outC subK lengthK)) reH (saysR Tryz.prog 192 (.int .i64 0)) (saysR Tryz.prog 155 (.complex .f64 (f js.length).1 (f js.length).2)) cs sz o xs.length c c1 c2 r (f js.length).1 (f js.length).2 fun ex e O => some (ex, e, O)
  rw [says_eq hc'] at h
  have h := h.trans (told_eq @hB' _ _)
  rw [leave_then, re_end, says_eq (zs_sum hsum (by omega))] at h
  exact fun_flat (C := reR la0 [(192, saysV (.int .i64 0) (saysR Tryz.prog 192 (.int .i64 0))), (155, saysV (.complex .f64 (f js.length).1 (f js.length).2) (saysR Tryz.prog 155 (.complex .f64 (f js.length).1 (f js.length).2)))]) (args := [flowV o xs.length c, ciV c1 c2 r, reFn]) (H := ⟨1, [(0, .cells cs sz)]⟩) (reR_ok _ (.cons (says_ok rfl) h192 (.cons (says_ok rfl) h155 .nil))) zm_ok Tryz.func109 re_body (fun a _ => slimL_ok (told_ok _ _ _ _ a)) (Nat.le_of_ble_eq_true rfl) h (.inr rfl) (vs := [.complex .f64 (f js.length).1 (f js.length).2, .int .i64 0]) rfl rfl
end
end Go.Vm
namespace Go.Vm
open Go.Proofs
set_option linter.unusedVariables false
set_option linter.unusedSimpArgs false
set_option maxRecDepth 1000000

/-! ### asked, Inside, Outside, Round, Residues -/
noncomputable def akC (fi : Fi) (st : St) (ap : Ap) (wi : KCFB) (gl : List (Nat × HSum)) (ml : List (Nat × MSum)) : Cx :=
  cxM fi Tryz.prog (fun _ _ => none) [(135, sCFB wi)] [] gl ml (mmOf la0 [] st ap)
section
variable (fi : Fi) (R : Type) (st : St) (ap : Ap) (wi : KCFB) (gc : HT) (mt : MT) (ms : MSum) (cs os : List Value) (sz o n c c1 c2 r x y : Nat) (e : Int) (K : Ex → Env → Objs → Option R)
theorem ak_eq : evTop (akC fi st ap wi [(107, saysV (.int .i64 0) gc)] []) 60 noL 1 26 (codeOf 239) (enumE 0 [flowV o n c, ciV c1 c2 r]) ⟨1, [(0, .cells cs sz)]⟩ (takeC [4] [] K) =
    gc R [flowV o n c] ⟨3, [(2, .cells [.complex .f64 c1 c2, .float .f64 r] 0), (1, .cells [.slice (some ⟨0, o, none⟩) n c] 0), (0, .cells cs sz)]⟩ (wi R c1 c2 4787326403894837248 fun t => bif t then
      (bif geF r 4427038433705197568 then bif leF r 4787326403894837248 then K .ret [(4, .int .i64 0)] [] else K .ret [(4, .int .i64 5)] [] else K .ret [(4, .int .i64 5)] []) else K .ret [(4, .int .i64 5)] []) := by kernel_rfl
theorem ro_eq : evTop (akC fi st ap wi [(109, saysV (.tuple ⟨[.complex .f64 x y, .int .i64 e]⟩) gc)] []) 60 noL 1 19 (codeOf 36) (enumE 0 [flowV o n c, ciV c1 c2 r]) ⟨1, [(0, .cells cs sz)]⟩ (takeC [4, 5, 6] [] K) =
    gc R [flowV o n c, ciV c1 c2 r, roFn] ⟨3, [(2, .cells [.complex .f64 c1 c2, .float .f64 r] 0), (1, .cells [.slice (some ⟨0, o, none⟩) n c] 0), (0, .cells cs sz)]⟩ (K .ret [(4, .float .f64 x), (5, .float .f64 y), (6, .int .i64 e)] []) := by kernel_rfl
theorem re_eq : evTop (akC fi st ap wi [(109, saysV (.tuple ⟨[.complex .f64 x y, .int .i64 e]⟩) gc)] []) 60 noL 1 11 (codeOf 37) (enumE 0 [flowV o n c, ciV c1 c2 r]) ⟨1, [(0, .cells cs sz)]⟩ (takeC [4, 5] [] K) =
    gc R [flowV o n c, ciV c1 c2 r, reFn] ⟨3, [(2, .cells [.complex .f64 c1 c2, .float .f64 r] 0), (1, .cells [.slice (some ⟨0, o, none⟩) n c] 0), (0, .cells cs sz)]⟩ (K .ret [(4, .complex .f64 x y), (5, .int .i64 e)] []) := by kernel_rfl
theorem in_eq (w : Int) (f : Nat) (hf : (f = 34 ∧ w = -1) ∨ (f = 35 ∧ w = 1)) (v : Nat → Value) : evTop (akC fi st ap wi [] [(108, leavesV 1 (fun b => thV_ (v b) e) mt)]) 60 noL 1 11 (codeOf f) (enumE 0 [flowV o n c, ciV c1 c2 r]) ⟨1, [(0, .cells cs sz)]⟩ (takeC [4, 5] [3] K) =
    mt R [flowV o n c, ciV c1 c2 r, .int .i64 w] ⟨3, [(2, .cells [.complex .f64 c1 c2, .float .f64 r] 0), (1, .cells [.slice (some ⟨0, o, none⟩) n c] 0), (0, .cells cs sz)]⟩ fun os => K .ret [(4, v 3), (5, .int .i64 e)] [(3, .cells os 1)] := by
  rcases hf with ⟨rfl, rfl⟩ | ⟨rfl, rfl⟩
  · kernel_rfl
  · kernel_rfl
theorem in_eq0 (w : Int) (f : Nat) (hf : (f = 34 ∧ w = -1) ∨ (f = 35 ∧ w = 1)) (v : Value) : evTop (akC fi st ap wi [] [(108, saysM (thV_ v e) gc)]) 60 noL 1 11 (codeOf f) (enumE 0 [flowV o n c, ciV c1 c2 r]) ⟨1, [(0, .cells cs sz)]⟩ (takeC [4, 5] [3] K) =
    gc R [flowV o n c, ciV c1 c2 r, .int .i64 w] ⟨3, [(2, .cells [.complex .f64 c1 c2, .float .f64 r] 0), (1, .cells [.slice (some ⟨0, o, none⟩) n c] 0), (0, .cells cs sz)]⟩ (K .ret [(4, v), (5, .int .i64 e)] []) := by
  rcases hf with ⟨rfl, rfl⟩ | ⟨rfl, rfl⟩
  · kernel_rfl
  · kernel_rfl
end
end Go.Vm
namespace Go.Vm
open Go.Proofs
set_option linter.unusedVariables false
set_option linter.unusedSimpArgs false
set_option maxRecDepth 1000000

/-! ### .. are told -/
theorem h135r : Has Tryz.prog 135 := ⟨Tryz.f135, _, Tryz.func135, by kernel_rfl, rfl⟩
noncomputable def akR (gl : List (Nat × HSum)) (ml : List (Nat × MSum)) : Cx := akC fiReal rSt (rAp Tryz.prog) WithinK gl ml
theorem akR_ok {gl : List (Nat × HSum)} (hg : GsOk Tryz.prog gl) {ml : List (Nat × MSum)} (hm : MsOk Tryz.prog ml) : (akR gl ml).Ok := cxM_ok no_meth (.cons k135 h135r .nil) no_ext hg hm (mmOf_ok .nil)
theorem h109 : Has Tryz.prog 109 := ⟨Tryz.f109, _, Tryz.func109, by kernel_rfl, rfl⟩
theorem h108 : Has Tryz.prog 108 := ⟨Tryz.f108, _, Tryz.func108, by kernel_rfl, rfl⟩
theorem ak_body : Tryz.f239.body = some (codeOf 239) := by kernel_rfl
theorem ro_body36 : Tryz.f36.body = some (codeOf 36) := by kernel_rfl
theorem re_body37 : Tryz.f37.body = some (codeOf 37) := by kernel_rfl
theorem in_body34 : Tryz.f34.body = some (codeOf 34) := by kernel_rfl
theorem in_body35 : Tryz.f35.body = some (codeOf 35) := by kernel_rfl
/-- a circle that may be -/
structure Fits (c1 c2 r : Nat) : Prop where
  within : ∀ (R : Type) (k : Bool → Option R), WithinK R c1 c2 4787326403894837248 k = k true
  lo : geF r 4427038433705197568 = true
  hi : leF r 4787326403894837248 = true
section
variable {cs : List Value} {sz o n c c1 c2 r : Nat}
theorem asked_call (hf : inns 0 cs = true) (hc : FlatCall Tryz.prog 107 [flowV o n c] ⟨1, [(0, .cells cs sz)]⟩ (.int .i64 0)) (hr : Fits c1 c2 r) : FlatCall Tryz.prog 239 [flowV o n c, ciV c1 c2 r] ⟨1, [(0, .cells cs sz)]⟩ (.int .i64 0) := by
  have hc' : FlatCall Tryz.prog 107 [flowV o n c] ⟨3, [(2, .cells [.complex .f64 c1 c2, .float .f64 r] 0), (1, .cells [.slice (some ⟨0, o, none⟩) n c] 0), (0, .cells cs sz)]⟩ (.int .i64 0) := FlatCall.one hc hf (by simp) rfl
  have h := ak_eq fiReal (Ex × Env × Objs) rSt (rAp Tryz.prog) WithinK (saysR Tryz.prog 107 (.int .i64 0)) cs sz o n c c1 c2 r fun ex e O => some (ex, e, O)
  rw [says_eq hc', hr.within, cond_true, hr.lo, cond_true, hr.hi, cond_true] at h
  exact fun_flat (C := akR [(107, saysV (.int .i64 0) (saysR Tryz.prog 107 (.int .i64 0)))] []) (args := [flowV o n c, ciV c1 c2 r]) (H := ⟨1, [(0, .cells cs sz)]⟩) (akR_ok (.cons (says_ok rfl) h107 .nil) .nil) zm_ok (L := noL) Tryz.func239 ak_body (fun a _ => noL_ok) (Nat.le_of_ble_eq_true rfl) h (.inr rfl) (vs := [.int .i64 0]) rfl rfl
def roV (x y : Nat) (e : Int) : Value := .tuple ⟨[.float .f64 x, .float .f64 y, .int .i64 e]⟩
def reV (x y : Nat) (e : Int) : Value := .tuple ⟨[.complex .f64 x y, .int .i64 e]⟩
theorem round_call {x y : Nat} {e : Int} (hf : inns 0 cs = true) (hc : FlatCall Tryz.prog 109 [flowV o n c, ciV c1 c2 r, roFn] ⟨1, [(0, .cells cs sz)]⟩ (reV x y e)) : FlatCall Tryz.prog 36 [flowV o n c, ciV c1 c2 r] ⟨1, [(0, .cells cs sz)]⟩ (roV x y e) := by
  have hc' : FlatCall Tryz.prog 109 [flowV o n c, ciV c1 c2 r, roFn] ⟨3, [(2, .cells [.complex .f64 c1 c2, .float .f64 r] 0), (1, .cells [.slice (some ⟨0, o, none⟩) n c] 0), (0, .cells cs sz)]⟩ (reV x y e) := FlatCall.one hc hf (by simp) rfl
  have h := ro_eq fiReal (Ex × Env × Objs) rSt (rAp Tryz.prog) WithinK (saysR Tryz.prog 109 (reV x y e)) cs sz o n c c1 c2 r x y e fun ex e O => some (ex, e, O)
  rw [says_eq hc'] at h
  exact fun_flat (C := akR [(109, saysV (reV x y e) (saysR Tryz.prog 109 (reV x y e)))] []) (args := [flowV o n c, ciV c1 c2 r]) (H := ⟨1, [(0, .cells cs sz)]⟩) (akR_ok (.cons (says_ok rfl) h109 .nil) .nil) zm_ok (L := noL) Tryz.func36 ro_body36 (fun a _ => noL_ok) (Nat.le_of_ble_eq_true rfl) h (.inr rfl) (vs := [.float .f64 x, .float .f64 y, .int .i64 e]) rfl rfl
theorem residues_call {x y : Nat} {e : Int} (hf : inns 0 cs = true) (hc : FlatCall Tryz.prog 109 [flowV o n c, ciV c1 c2 r, reFn] ⟨1, [(0, .cells cs sz)]⟩ (reV x y e)) : FlatCall Tryz.prog 37 [flowV o n c, ciV c1 c2 r] ⟨1, [(0, .cells cs sz)]⟩ (reV x y e) := by
  have hc' : FlatCall Tryz.prog 109 [flowV o n c, ciV c1 c2 r, reFn] ⟨3, [(2, .cells [.complex .f64 c1 c2, .float .f64 r] 0), (1, .cells [.slice (some ⟨0, o, none⟩) n c] 0), (0, .cells cs sz)]⟩ (reV x y e) := FlatCall.one hc hf (by simp) rfl
  have h := re_eq fiReal (Ex × Env × Objs) rSt (rAp Tryz.prog) WithinK (saysR Tryz.prog 109 (reV x y e)) cs sz o n c c1 c2 r x y e fun ex e O => some (ex, e, O)
  rw [says_eq hc'] at h
  exact fun_flat (C := akR [(109, saysV (reV x y e) (saysR Tryz.prog 109 (reV x y e)))] []) (args := [flowV o n c, ciV c1 c2 r]) (H := ⟨1, [(0, .cells cs sz)]⟩) (akR_ok (.cons (says_ok rfl) h109 .nil) .nil) zm_ok (L := noL) Tryz.func37 re_body37 (fun a _ => noL_ok) (Nat.le_of_ble_eq_true rfl) h (.inr rfl) (vs := [.complex .f64 x y, .int .i64 e]) rfl rfl
/-- a call that leaves nothing that is named -/
theorem flat_of_next {P : Program} {f : FuncId} {args : List Value} {H H' : AH} {v : Value} (hv : flat v = true)
    (h : ∀ ρ w args', Inv ρ H w → VRels ρ args args' → Calls P f ⟨args'⟩ w fun en w' => ∃ ρ' v', en = .returned v' ∧ VRel ρ' v v' ∧ Next H.next ρ H w ρ' H' w') : FlatCall P f args H v :=
  fun ρ w args' hi ha => (h ρ w args' hi ha).mono fun en w' ⟨ρ', v', e1, e2, n1⟩ => by
    have := e2.flat_eq hv
    subst this
    exact ⟨e1, n1.os, n1.tape, n1.output, n1.size, fun b hb => n1.keep b hb fun k o s hk hm => absurd (hi.wf k o hm) (by omega)⟩
theorem inside_flat {f : Nat} {w : Int} (hfw : (f = 34 ∧ w = -1) ∨ (f = 35 ∧ w = 1)) {e : Int} (hf : inns 0 cs = true) (hc : FlatCall Tryz.prog 108 [flowV o n c, ciV c1 c2 r, .int .i64 w] ⟨1, [(0, .cells cs sz)]⟩ (thV_ nilS e)) :
    FlatCall Tryz.prog f [flowV o n c, ciV c1 c2 r] ⟨1, [(0, .cells cs sz)]⟩ (thV_ nilS e) := by
  have hc' : FlatCall Tryz.prog 108 [flowV o n c, ciV c1 c2 r, .int .i64 w] ⟨3, [(2, .cells [.complex .f64 c1 c2, .float .f64 r] 0), (1, .cells [.slice (some ⟨0, o, none⟩) n c] 0), (0, .cells cs sz)]⟩ (thV_ nilS e) := FlatCall.one hc hf (by simp) rfl
  have h := in_eq0 fiReal (Ex × Env × Objs) rSt (rAp Tryz.prog) WithinK (saysR Tryz.prog 108 (thV_ nilS e)) cs sz o n c c1 c2 r e (fun ex e O => some (ex, e, O)) w f hfw nilS
  rw [says_eq hc'] at h
  rcases hfw with ⟨rfl, rfl⟩ | ⟨rfl, rfl⟩
  · exact fun_flat (C := akR [] [(108, saysM (thV_ nilS e) (saysR Tryz.prog 108 (thV_ nilS e)))]) (args := [flowV o n c, ciV c1 c2 r]) (H := ⟨1, [(0, .cells cs sz)]⟩) (akR_ok .nil (.cons (saysM_ok rfl) h108 .nil)) zm_ok (L := noL) Tryz.func34 in_body34 (fun a _ => noL_ok) (Nat.le_of_ble_eq_true rfl) h (.inr rfl) (vs := [nilS, .int .i64 e]) rfl rfl
  · exact fun_flat (C := akR [] [(108, saysM (thV_ nilS e) (saysR Tryz.prog 108 (thV_ nilS e)))]) (args := [flowV o n c, ciV c1 c2 r]) (H := ⟨1, [(0, .cells cs sz)]⟩) (akR_ok .nil (.cons (saysM_ok rfl) h108 .nil)) zm_ok (L := noL) Tryz.func35 in_body35 (fun a _ => noL_ok) (Nat.le_of_ble_eq_true rfl) h (.inr rfl) (vs := [nilS, .int .i64 e]) rfl rfl
def slB (j b : Nat) : Value := .slice (some ⟨b, 0, none⟩) j j
theorem inside_mem {f : Nat} {w : Int} (hfw : (f = 34 ∧ w = -1) ∨ (f = 35 ∧ w = 1)) {j : Nat} {os : List Value} (hos : inns 0 os = true) (hf : inns 0 cs = true) {H1 : AH} (hH1 : (3, .cells os 1) ∈ H1.objs)
    (hc : ∀ ρ W args', Inv ρ ⟨1, [(0, .cells cs sz)]⟩ W → VRels ρ [flowV o n c, ciV c1 c2 r, .int .i64 w] args' → Calls Tryz.prog 108 ⟨args'⟩ W fun en w' => ∃ ρ' v', en = .returned v' ∧ VRel ρ' (thV_ (slB j 3) 0) v' ∧ Next 1 ρ ⟨1, [(0, .cells cs sz)]⟩ W ρ' H1 w') :
    ∃ H', (3, .cells os 1) ∈ H'.objs ∧ ∀ ρ W args', Inv ρ ⟨1, [(0, .cells cs sz)]⟩ W → VRels ρ [flowV o n c, ciV c1 c2 r] args' → Calls Tryz.prog f ⟨args'⟩ W fun en w' => ∃ ρ' v', en = .returned v' ∧ VRel ρ' (thV_ (slB j 3) 0) v' ∧ Next 1 ρ ⟨1, [(0, .cells cs sz)]⟩ W ρ' H' w' := by
  have hc' : MemCall Tryz.prog 108 [flowV o n c, ciV c1 c2 r, .int .i64 w] ⟨3, [(2, .cells [.complex .f64 c1 c2, .float .f64 r] 0), (1, .cells [.slice (some ⟨0, o, none⟩) n c] 0), (0, .cells cs sz)]⟩ (thV_ (slB j 3) 0)
      (AH.push ⟨3, [(2, .cells [.complex .f64 c1 c2, .float .f64 r] 0), (1, .cells [.slice (some ⟨0, o, none⟩) n c] 0), (0, .cells cs sz)]⟩ (.cells os 1)) :=
    calls_lift (q := only 0) (bs := [3]) (A := [(3, .cells os 1)]) (Hc := ⟨1, [(0, .cells cs sz)]⟩) (H := ⟨3, [(2, .cells [.complex .f64 c1 c2, .float .f64 r] 0), (1, .cells [.slice (some ⟨0, o, none⟩) n c] 0), (0, .cells cs sz)]⟩) (within_only hf (by simp)) rfl rfl (fun k o2 hk => by
      simp only [List.mem_singleton, Prod.mk.injEq] at hk
      obtain ⟨rfl, rfl⟩ := hk
      exact ⟨3, _, hH1, rfl, by simp [renO, rens_flat hos]⟩) (fun j hj => by
      simp only [List.mem_singleton] at hj
      subst hj
      show 1 ≤ 3
      omega) hc
  have h := in_eq fiReal (Ex × Env × Objs) rSt (rAp Tryz.prog) WithinK (leavesR Tryz.prog 108 1 (fun b => thV_ (slB j b) 0) os) cs sz o n c c1 c2 r 0 (fun ex e O => some (ex, e, O)) w f hfw (slB j)
  rw [leaves_eq hc'] at h
  rcases hfw with ⟨rfl, rfl⟩ | ⟨rfl, rfl⟩
  · obtain ⟨H', hO, g⟩ := fun_mem (C := akR [] [(108, leavesV 1 (fun b => thV_ (slB j b) 0) (leavesR Tryz.prog 108 1 (fun b => thV_ (slB j b) 0) os))]) (args := [flowV o n c, ciV c1 c2 r]) (H := ⟨1, [(0, .cells cs sz)]⟩) (akR_ok .nil (.cons leaves_ok h108 .nil)) zm_ok (L := noL) Tryz.func34 in_body34 (fun a _ => noL_ok) (Nat.le_of_ble_eq_true rfl) h (.inr rfl) (vs := [slB j 3, .int .i64 0]) rfl
    exact ⟨H', hO _ (by simp), g⟩
  · obtain ⟨H', hO, g⟩ := fun_mem (C := akR [] [(108, leavesV 1 (fun b => thV_ (slB j b) 0) (leavesR Tryz.prog 108 1 (fun b => thV_ (slB j b) 0) os))]) (args := [flowV o n c, ciV c1 c2 r]) (H := ⟨1, [(0, .cells cs sz)]⟩) (akR_ok .nil (.cons leaves_ok h108 .nil)) zm_ok (L := noL) Tryz.func35 in_body35 (fun a _ => noL_ok) (Nat.le_of_ble_eq_true rfl) h (.inr rfl) (vs := [slB j 3, .int .i64 0]) rfl
    exact ⟨H', hO _ (by simp), g⟩
end
end Go.Vm
namespace Go.Vm
open Go.Proofs
set_option linter.unusedVariables false
set_option maxRecDepth 1000000

/-! ### ForceLift's functions -/
theorem zl_times (R : Type) (a b : Nat) (k : Value → Option R) : evFn (cx Tryz.prog []) 60 40 [.complex .f64 a b] k = timesK R a b fun x y => k (.complex .f64 x y) := by kernel_rfl
end Go.Vm
namespace Go.Vm
open Go.Proofs
set_option linter.unusedVariables false

/-! ### What single calls answer: places about the circle of the radius 3, speeds there -/
def placeT0 : List (Nat × Nat × Nat) := [(0, 4613937818241073152, 0), (4591738658415193368, 4613905289146325980, 4598968779397875489), (4596242258042563864, 4613808015135049092, 4603446871754488968), (4598977298231927250, 4613646933009146468, 4606019175331163784), (4600745857669934360, 4613423594077546996, 4607849178062847754), (4602514417107941470, 4613140149216251461, 4609047765677586604), (4603480897859297746, 4612799328154220858, 4610185016855862572), (4604365177578301301, 4612404413184594289, 4611249979247144129), (4605249457297304856, 4611959207554411738, 4611959207554411737), (4606133737016308411, 4611249979247144130, 4612404413184594288), (4607018016735311966, 4610185016855862574, 4612799328154220858), (4607542357627166464, 4609047765677586606, 4613140149216251460), (4607984497486668242, 4607849178062847755, 4613423594077546996), (4608426637346170020, 4606019175331163782, 4613646933009146468), (4608868777205671797, 4603446871754488969, 4613808015135049092), (4609310917065173574, 4598968779397875498, 4613905289146325980)]
def placeT1 : List (Nat × Nat × Nat) := [(4609753056924675352, 4371439675322042880, 4613937818241073152), (4610195196784177130, 13822340816252651300, 4613905289146325980), (4610637336643678907, 13826818908609264774, 4613808015135049092), (4611079476503180684, 13829391212185939587, 4613646933009146468), (4611521616362682462, 13831221214917623562, 4613423594077546996), (4611824887324786072, 13832419802532362413, 4613140149216251461), (4612045957254536960, 13833557053710638377, 4612799328154220860), (4612267027184287849, 13834622016101919934, 4612404413184594290), (4612488097114038738, 13835331244409187545, 4611959207554411738), (4612709167043789627, 13835776450039370097, 4611249979247144129), (4612930236973540516, 13836171365008996667, 4610185016855862572), (4613151306903291404, 13836512186071027268, 4609047765677586606), (4613372376833042293, 13836795630932322804, 4607849178062847756), (4613593446762793182, 13837018969863922276, 4606019175331163784), (4613814516692544070, 13837180051989824900, 4603446871754488976), (4614035586622294959, 13837277326001101788, 4598968779397875502)]
def placeT2 : List (Nat × Nat × Nat) := [(4614256656552045848, 13837309855095848960, 4375943274949413376), (4614477726481796737, 13837277326001101788, 13822340816252651296), (4614698796411547626, 13837180051989824900, 13826818908609264778), (4614919866341298514, 13837018969863922276, 13829391212185939586), (4615140936271049403, 13836795630932322804, 13831221214917623561), (4615362006200800292, 13836512186071027269, 13832419802532362412), (4615583076130551180, 13836171365008996668, 13833557053710638377), (4615804146060302069, 13835776450039370098, 13834622016101919934), (4616025215990052958, 13835331244409187546, 13835331244409187545), (4616217951987281123, 13834622016101919943, 13835776450039370094), (4616328486952156568, 13833557053710638380, 13836171365008996666), (4616439021917032012, 13832419802532362415, 13836512186071027268), (4616549556881907456, 13831221214917623570, 13836795630932322803), (4616660091846782901, 13829391212185939593, 13837018969863922276), (4616770626811658345, 13826818908609264787, 13837180051989824899), (4616881161776533790, 13822340816252651289, 13837277326001101788)]
def placeT3 : List (Nat × Nat × Nat) := [(4616991696741409234, 13601956002331551616, 13837309855095848960), (4617102231706284678, 4598968779397875461, 13837277326001101788), (4617212766671160123, 4603446871754488968, 13837180051989824900), (4617323301636035567, 4606019175331163776, 13837018969863922276), (4617433836600911012, 4607849178062847757, 13836795630932322804), (4617544371565786456, 4609047765677586604, 13836512186071027269), (4617654906530661900, 4610185016855862568, 13836171365008996668), (4617765441495537345, 4611249979247144130, 13835776450039370096), (4617875976460412789, 4611959207554411737, 13835331244409187546), (4617986511425288233, 4612404413184594286, 13834622016101919943), (4618097046390163678, 4612799328154220858, 13833557053710638380), (4618207581355039122, 4613140149216251460, 13832419802532362416), (4618318116319914566, 4613423594077546995, 13831221214917623570), (4618428651284790011, 4613646933009146468, 13829391212185939594), (4618539186249665455, 4613808015135049091, 13826818908609264788), (4618649721214540900, 4613905289146325980, 13822340816252651292)]
def lookP (t : Nat) : List (Nat × Nat × Nat) → Option (Nat × Nat)
  | [] => none
  | (a, x, y) :: r => bif Nat.beq a t then some (x, y) else lookP t r
def lookT (z1 z2 : Nat) : List (Nat × Nat × Nat × Nat) → Option (Nat × Nat)
  | [] => none
  | (a, b, x, y) :: r => bif Nat.beq a z1 && Nat.beq b z2 then some (x, y) else lookT z1 z2 r
def sPlace : Sum := fun R args k => match args with
  | [.float .f64 l, .float .f64 t] => bif Nat.beq l 4613937818241073152 then
      match lookP t placeT0 with
      | some (x, y) => k (.complex .f64 x y)
      | none => match lookP t placeT1 with
        | some (x, y) => k (.complex .f64 x y)
        | none => match lookP t placeT2 with
          | some (x, y) => k (.complex .f64 x y)
          | none => match lookP t placeT3 with
            | some (x, y) => k (.complex .f64 x y)
            | none => none
    else none
  | _ => none
def eqV : Value → Value → Bool
  | .int j a, .int k b => decide (j = k) && decide (a = b)
  | .float j a, .float k b => decide (j = k) && Nat.beq a b
  | .complex j a b, .complex k c d => decide (j = k) && Nat.beq a c && Nat.beq b d
  | _, _ => false
def eqC : List Value → List Value → Bool
  | [], [] => true
  | a :: r, b :: s => eqV a b && eqC r s
  | _, _ => false
def spV (p : Nat × Nat) : Value := .tuple ⟨[.complex .f64 p.1 p.2, .int .i64 0]⟩
end Go.Vm
namespace Go.Vm
open Go.Proofs
set_option linter.unusedVariables false
set_option maxRecDepth 1000000

/-! ### The places -/
theorem h162 : Has Tryz.prog 162 := ⟨Tryz.f162, _, Tryz.func162, by kernel_rfl, rfl⟩
theorem h52 : Has Tryz.prog 52 := ⟨Tryz.f52, _, Tryz.func52, by kernel_rfl, rfl⟩
def isC (v : Option Value) (x y : Nat) : Bool := match v with | some (.complex .f64 a b) => Nat.beq a x && Nat.beq b y | _ => false
theorem isC_eq {v : Option Value} {x y : Nat} (h : isC v x y = true) : v = some (.complex .f64 x y) := by
  unfold isC at h
  split at h
  · simp only [Bool.and_eq_true, Nat.beq_eq] at h
    rw [h.1, h.2]
  · cases h
/-! ### The speeds -/
def isT (v : Option Value) (x y : Nat) : Bool := match v with | some (.tuple ⟨[.complex .f64 a b, .int .i64 e]⟩) => Nat.beq a x && Nat.beq b y && decide (e = 0) | _ => false
theorem isT_eq {v : Option Value} {x y : Nat} (h : isT v x y = true) : v = some (spV (x, y)) := by
  unfold isT at h
  split at h
  · simp only [Bool.and_eq_true, Nat.beq_eq, decide_eq_true_eq] at h
    rw [h.1.1, h.1.2, h.2]
    rfl
  · cases h
theorem eqV_eq : ∀ {a b : Value}, eqV a b = true → a = b := by
  intro a b h
  unfold eqV at h
  split at h
  · simp only [Bool.and_eq_true, decide_eq_true_eq] at h; rw [h.1, h.2]
  · simp only [Bool.and_eq_true, decide_eq_true_eq, Nat.beq_eq] at h; rw [h.1, h.2]
  · simp only [Bool.and_eq_true, decide_eq_true_eq, Nat.beq_eq] at h; rw [h.1.1, h.1.2, h.2]
  · cases h
theorem eqC_eq : ∀ {a b : List Value}, eqC a b = true → a = b
  | [], [], _ => rfl
  | a :: r, b :: s, h => by
    unfold eqC at h
    simp only [Bool.and_eq_true] at h
    rw [eqV_eq h.1, eqC_eq h.2]
  | [], _ :: _, h => by cases h
  | _ :: _, [], h => by cases h

end Go.Vm
namespace Go.Vm
open Go.Proofs
set_option linter.unusedVariables false
set_option maxRecDepth 1000000

/-! ### ForceLift's functions are what is told of them -/
theorem h40 : Has Tryz.prog 40 := ⟨Tryz.f40, _, Tryz.func40, by kernel_rfl, rfl⟩
theorem k40 : SumOk Tryz.prog 40 (sCC timesK) := ok_sCC zm_ok .nil zl_times
end Go.Vm
namespace Go.Vm
open Go.Proofs
set_option linter.unusedVariables false
set_option linter.unusedSimpArgs false
set_option maxRecDepth 1000000

/-! ### RingApart's own equations -/
noncomputable def maC (lim : Nat → Bool) (fi : Fi) (gi gk : GI) (gc : GC) (st : St) (ap : Ap) (sm : KG2B) (of : KG2C) (len : KCF) (sc : KCFC) (ti : KCC) (ne : KCCFB) (gl : List (Nat × HSum)) (ml : List (Nat × MSum)) : Cx :=
  cxM fi Tryz.prog (fun _ _ => none) [(33, sG2B sm), (32, sG2C of), (38, sCF len), (39, sCFC sc), (40, sCC ti), (28, sCCFB ne)] [] gl ml (mmOf lim [(3, gI .i64 gi), (5, gI .u8 gk), (28, gC gc)] st ap)
def maArgs (n c : Nat) (x y r : Int) : List Value := [.slice (some ⟨0, 0, none⟩) n c, .agg ⟨[.int .i16 x, .int .i16 y]⟩, .int .i16 r]
def la6 (b : Nat) : Bool := Nat.beq b 0 || Nat.beq b 2 || Nat.beq b 5 || Nat.beq b 6
noncomputable def maA : Code := loopNo (codeOf 6) 0
noncomputable def maB : Code := loopNo (codeOf 6) 1
def maE (v w : Value) (j i k a : Int) : Env := [(18, .int .i64 j), (8, .pointer (some ⟨3, 0, none⟩)), (11, v), (13, w), (16, .int .i64 i), (17, .int .i64 k), (15, .int .i64 a), (10, .pointer (some ⟨4, 0, none⟩))]
def maD (es : List Value) (n c1 c2 r : Nat) : Objs := [(3, .cells [sl3 2 n] 0), (4, .cells [.complex .f64 c1 c2, .float .f64 r] 0), (2, .cells es 4)]
def mbE (j : Int) (t1 t2 m z1 z2 x1 x2 : Nat) : Env := [(29, .int .i64 j), (8, .pointer (some ⟨3, 0, none⟩)), (10, .pointer (some ⟨4, 0, none⟩)), (26, .float .f64 t1), (27, .float .f64 t2), (28, .float .f64 m), (24, .complex .f64 z1 z2), (21, .float .f64 x1), (22, .float .f64 x2)]
/-- what is read of a list of places -/
def rdS {R : Type} (gi : GI) (os : List Value) (m i j : Nat) (k : Bool → Option R) : Option R :=
  bif decide ((i : Int) < m) then bif decide (0 ≤ (i : Int)) && decide ((i : Int) < m) && true then gi R os (0 + i * 1) fun v => bif v == j then k true else k false else none else k false
def rdT {R : Type} (gi : GI) (os : List Value) (m i j : Nat) (k : Bool → Option R) : Option R :=
  bif decide ((i : Int) < m) then bif decide (0 ≤ (i : Int)) && decide ((i : Int) < m) && true then gi R os (0 + i * 1) fun v => k (v == j) else none else k false
def rdN {R : Type} (i : Nat) (k : Bool → Option R) : Option R := bif decide ((i : Int) < (0 : Nat)) then none else k false
/-- a round's own part -/
def maK {R : Type} (fi : Fi) (gk : GI) (es : List Value) (n j i k a : Nat) (b1 b2 : Bool) (bad : Option R) (go : Int → Int → Int → Int → Option R) : Option R :=
  bif b1 then bif b2 then bad
    else bif decide (0 ≤ (j : Int)) && decide ((j : Int) < n) && true then gk R es (0 + j * 4 + 0) fun kd => bif kd == 1 then bad else fi R (IntKind.i64.wrap (i + 1)) fun i => fi R (IntKind.i64.wrap (a + 1)) fun a => fi R (IntKind.i64.wrap (j + 1)) fun j => go j i k a else none
  else bif b2 then
      bif decide (0 ≤ (j : Int)) && decide ((j : Int) < n) && true then gk R es (0 + j * 4 + 0) fun kd => bif kd == 1 then bad else fi R (IntKind.i64.wrap (k + 1)) fun k => fi R (IntKind.i64.wrap (a + 1)) fun a => fi R (IntKind.i64.wrap (j + 1)) fun j => go j i k a else none
    else
      bif decide (0 ≤ (j : Int)) && decide ((j : Int) < n) && true then gk R es (0 + j * 4 + 0) fun kd => bif kd == 1 then fi R (IntKind.i64.wrap (a + 1)) fun a => fi R (IntKind.i64.wrap (j + 1)) fun j => go j i k a else bad else none
end Go.Vm
