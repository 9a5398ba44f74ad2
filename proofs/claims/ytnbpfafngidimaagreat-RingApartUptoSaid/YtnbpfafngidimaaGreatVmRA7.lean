/- A part of the evaluator and of what is told of floats; no conditions. -/
import Derived.Test.YtnbpfafngidimaaGreatVmRA3
namespace Go.Vm
open Go.Proofs
set_option linter.unusedVariables false
set_option linter.unusedSimpArgs false
set_option maxRecDepth 1000000

/-! ### those is told -/
theorem ap62 (R : Type) (cs : List Value) (n c : Nat) (cx : List Value) (off m : Nat) (k : List Value → Option R) : rAp Tryz.prog R 62 cs n c cx off m k =
    bif true && true && Nat.beq c n && Nat.blt 0 m && Nat.ble ((n + m) * 8) 140737488355328 && Nat.ble (n + m) 1099511627776 && Nat.beq cs.length (n * 1) && Nat.beq ((cx.drop off).take (m * 1)).length (m * 1) && allOne ((cx.drop off).take (m * 1)) then
      k (cs ++ (cx.drop off).take (m * 1)) else none := by kernel_rfl
theorem ap62_one {R : Type} {cs : List Value} {n : Nat} {x : Int} {k : List Value → Option R} (h1 : cs.length = n) (hn : n < 1000000) : rAp Tryz.prog R 62 cs n n [.int .i64 x] 0 1 k = k (cs ++ [.int .i64 x]) := by
  rw [ap62, h1, ble_eq_of (show (n + 1) * 8 ≤ 140737488355328 by omega), ble_eq_of (show n + 1 ≤ 1099511627776 by omega), Nat.mul_one, Nat.beq_refl]
  rfl
def ints (js : List Nat) : List Value := js.map fun (j : Nat) => .int .i64 (j : Int)
theorem ints_len (js : List Nat) : (ints js).length = js.length := by unfold ints; simp
theorem ints_app (a b : List Nat) : ints (a ++ b) = ints a ++ ints b := by unfold ints; simp
theorem ints_flat : ∀ (js : List Nat), inns 0 (ints js) = true
  | [] => rfl
  | j :: r => ints_flat r
def sideOf {c1 c2 r : Nat} (S : Sight c1 c2 r) (x : El) : Int := bif x.kind == 1 then 0 else bif ltF (S.lw x) r then -1 else 1
def atSide {c1 c2 r : Nat} (S : Sight c1 c2 r) (w : Int) (xs : List El) (i : Nat) : Bool := match xs[i]? with | some x => sideOf S x == w | none => false
def sites {c1 c2 r : Nat} (S : Sight c1 c2 r) (w : Int) (xs : List El) (k : Nat) : List Nat := (List.range k).filter (atSide S w xs)
def thS (js : List Nat) : Value := match js with | [] => nilS | _ :: _ => sl3 3 js.length
def thH (D : Objs) (cs : List Value) (sz : Nat) (js : List Nat) : AH := match js with | [] => ⟨3, D ++ [(0, .cells cs sz)]⟩ | _ :: _ => ⟨4, D ++ [(3, .cells (ints js) 1), (0, .cells cs sz)]⟩
noncomputable def thR (lim : Nat → Bool) (gl : List (Nat × HSum)) : Cx := thC lim fiReal rEl rSt (rAp Tryz.prog) (siC (outC subK lengthK)) gl
theorem thR_ok (lim : Nat → Bool) {gl : List (Nat × HSum)} (hg : GsOk Tryz.prog gl) : (thR lim gl).Ok := cxM_ok no_meth (.cons k195 h195 .nil) no_ext hg .nil (mmOf_ok lds1)
theorem thA_loops : loopsIn thA = [] := by kernel_rfl
theorem th_body_ : Tryz.f108.body = some (codeOf 108) := by kernel_rfl
section
variable {cs : List Value} {sz o n c c1 c2 r : Nat} {w : Int} {xs : List El} (S : Sight c1 c2 r)
theorem siC_at {x : El} (hs : Seen c1 c2 S.lw x) (R : Type) (k : Int → Option R) : siC (outC subK lengthK) R x.kind x.a1 x.a2 c1 c2 r k = k (sideOf S x) := by
  unfold siC sideOf
  rw [hs]
  cases x.kind == 1 with
  | true => rfl
  | false => cases ltF (S.lw x) r <;> rfl
theorem sites_step {k : Nat} {x : El} (hk : xs[k]? = some x) : sites S w xs (k + 1) = bif sideOf S x == w then sites S w xs k ++ [k] else sites S w xs k := by
  unfold sites
  rw [List.range_succ, List.filter_append]
  have : atSide S w xs k = (sideOf S x == w) := by unfold atSide; rw [hk]
  cases h : sideOf S x == w with
  | true => rw [List.filter_cons_of_pos (by rw [this, h]), List.filter_nil]; rfl
  | false => rw [List.filter_cons_of_neg (by rw [this, h]; simp), List.filter_nil, List.append_nil]; rfl
theorem sites_len (k : Nat) : (sites S w xs k).length ≤ k := by
  unfold sites
  have := List.length_filter_le (atSide S w xs) (List.range k)
  rw [List.length_range] at this
  exact this
theorem th_step (hx : ElsAt cs o xs) (hn : xs.length < 900000) {k : Nat} {x : El} (hk : xs[k]? = some x) (hs : Seen c1 c2 S.lw x) :
    BaseOk Tryz.prog 1 37 ⟨3, clD o xs.length c c1 c2 r ++ [(0, .cells cs sz)]⟩ (thE o xs.length c w (thS (sites S w xs k)) k) (thH (clD o xs.length c c1 c2 r) cs sz (sites S w xs k)) .normal
      (thE o xs.length c w (thS (sites S w xs (k + 1))) (k + 1 : Nat)) (thH (clD o xs.length c c1 c2 r) cs sz (sites S w xs (k + 1))) (fun Q a w => thA.wp Tryz.prog Q a w) := by
  have hkn := (List.getElem?_eq_some_iff.1 hk).1
  have hl := sites_len (xs := xs) (w := w) S k
  rw [sites_step S hk]
  generalize sites S w xs k = js at hl
  cases js with
  | nil =>
    cases hb : sideOf S x == w with
    | true =>
      show BaseOk Tryz.prog 1 37 _ (thE o xs.length c w nilS k) ⟨3, clD o xs.length c c1 c2 r ++ [(0, .cells cs sz)]⟩ _ (thE o xs.length c w (sl3 3 1) (k + 1 : Nat)) ⟨4, clD o xs.length c c1 c2 r ++ [(3, .cells [.int .i64 (k : Int)] 1), (0, .cells cs sz)]⟩ _
      exact round_told (C := thR la0 []) (H0 := ⟨3, clD o xs.length c c1 c2 r ++ [(0, .cells cs sz)]⟩) (e := thE o xs.length c w nilS k) (H := ⟨3, clD o xs.length c c1 c2 r ++ [(0, .cells cs sz)]⟩) (n := 60) (ts := [21, 20, 19, 4, 2, 9]) (bo := [2, 1, 5]) (bs := [5])
        (A := clD o xs.length c c1 c2 r ++ [(3, .cells [.int .i64 (k : Int)] 1)]) (B := [(0, .cells cs sz)]) (D := clD o xs.length c c1 c2 r) (thR_ok _ .nil) zm_ok thA_loops
        (by unfold thR
            refine (th_nil fiReal _ _ _ _ _ cs sz o xs.length c k c1 c2 r w _).trans ?_
            rw [decide_eq_true (show (k : Int) < xs.length by omega), cond_true, idx_ok, cond_true, rEl_at hx hk, siC_at S hs, hb, cond_true, fiReal_fair, wrap_up (by omega)]) rfl
        rfl rfl rfl rfl rfl rfl
    | false =>
      show BaseOk Tryz.prog 1 37 _ (thE o xs.length c w nilS k) ⟨3, clD o xs.length c c1 c2 r ++ [(0, .cells cs sz)]⟩ _ (thE o xs.length c w nilS (k + 1 : Nat)) ⟨3, clD o xs.length c c1 c2 r ++ [(0, .cells cs sz)]⟩ _
      exact round_told (C := thR la0 []) (H0 := ⟨3, clD o xs.length c c1 c2 r ++ [(0, .cells cs sz)]⟩) (e := thE o xs.length c w nilS k) (H := ⟨3, clD o xs.length c c1 c2 r ++ [(0, .cells cs sz)]⟩) (n := 60) (ts := [21, 20, 19, 4, 2, 9]) (bo := [2, 1, 5]) (bs := [])
        (A := clD o xs.length c c1 c2 r) (B := [(0, .cells cs sz)]) (D := clD o xs.length c c1 c2 r) (thR_ok _ .nil) zm_ok thA_loops
        (by unfold thR
            refine (th_nil fiReal _ _ _ _ _ cs sz o xs.length c k c1 c2 r w _).trans ?_
            rw [decide_eq_true (show (k : Int) < xs.length by omega), cond_true, idx_ok, cond_true, rEl_at hx hk, siC_at S hs, hb, cond_false, fiReal_fair, wrap_up (by omega)]) rfl
        rfl rfl rfl rfl rfl rfl
  | cons j0 js =>
    cases hb : sideOf S x == w with
    | true =>
      show BaseOk Tryz.prog 1 37 _ (thE o xs.length c w (sl3 3 (j0 :: js).length) k) ⟨4, clD o xs.length c c1 c2 r ++ [(3, .cells (ints (j0 :: js)) 1), (0, .cells cs sz)]⟩ _
        (thE o xs.length c w (sl3 3 ((j0 :: js) ++ [k]).length) (k + 1 : Nat)) ⟨4, clD o xs.length c c1 c2 r ++ [(3, .cells (ints ((j0 :: js) ++ [k])) 1), (0, .cells cs sz)]⟩ _
      rw [ints_app, List.length_append]
      have hf : inns 0 (ints (j0 :: js) ++ ints [k]) = true := inns_app (ints_flat _) (ints_flat _)
      exact round_told (C := thR oa3 []) (H0 := ⟨3, clD o xs.length c c1 c2 r ++ [(0, .cells cs sz)]⟩) (e := thE o xs.length c w (sl3 3 (j0 :: js).length) k) (H := ⟨4, clD o xs.length c c1 c2 r ++ [(3, .cells (ints (j0 :: js)) 1), (0, .cells cs sz)]⟩) (n := 60) (ts := [21, 20, 19, 4, 2, 9]) (bo := [2, 1, 6]) (bs := [6])
        (A := clD o xs.length c c1 c2 r ++ [(3, .cells (ints (j0 :: js) ++ ints [k]) 1)]) (B := [(0, .cells cs sz)]) (D := clD o xs.length c c1 c2 r) (O1 := clD o xs.length c c1 c2 r ++ [(6, .cells (ints (j0 :: js) ++ ints [k]) 1)]) (thR_ok _ .nil) zm_ok thA_loops
        (by unfold thR
            refine (th_some fiReal _ _ _ _ _ cs _ sz o xs.length c _ k c1 c2 r w _).trans ?_
            rw [decide_eq_true (show (k : Int) < xs.length by omega), cond_true, idx_ok, cond_true, rEl_at hx hk, siC_at S hs, hb, cond_true, ap62_one (ints_len _) (by omega), fiReal_fair, wrap_up (by omega)]
            rfl) rfl
        (by simp only [clD, List.cons_append, List.nil_append, renOs, renO, renL, renV]
            rw [rens_flat hf]
            rfl) rfl rfl rfl rfl rfl
    | false =>
      show BaseOk Tryz.prog 1 37 _ (thE o xs.length c w (sl3 3 (j0 :: js).length) k) ⟨4, clD o xs.length c c1 c2 r ++ [(3, .cells (ints (j0 :: js)) 1), (0, .cells cs sz)]⟩ _
        (thE o xs.length c w (sl3 3 (j0 :: js).length) (k + 1 : Nat)) ⟨4, clD o xs.length c c1 c2 r ++ [(3, .cells (ints (j0 :: js)) 1), (0, .cells cs sz)]⟩ _
      exact round_told (C := thR oa3 []) (H0 := ⟨3, clD o xs.length c c1 c2 r ++ [(0, .cells cs sz)]⟩) (e := thE o xs.length c w (sl3 3 (j0 :: js).length) k) (H := ⟨4, clD o xs.length c c1 c2 r ++ [(3, .cells (ints (j0 :: js)) 1), (0, .cells cs sz)]⟩) (n := 60) (ts := [21, 20, 19, 4, 2, 9]) (bo := [2, 1, 3]) (bs := [3])
        (A := clD o xs.length c c1 c2 r ++ [(3, .cells (ints (j0 :: js)) 1)]) (B := [(0, .cells cs sz)]) (D := clD o xs.length c c1 c2 r) (O1 := clD o xs.length c c1 c2 r ++ [(3, .cells (ints (j0 :: js)) 1)]) (thR_ok _ .nil) zm_ok thA_loops
        (by unfold thR
            refine (th_keep fiReal _ _ _ _ _ cs _ sz o xs.length c _ k c1 c2 r w _).trans ?_
            rw [decide_eq_true (show (k : Int) < xs.length by omega), cond_true, idx_ok, cond_true, rEl_at hx hk, siC_at S hs, hb, cond_false, fiReal_fair, wrap_up (by omega)]) rfl
        (by simp only [clD, List.cons_append, List.nil_append, renOs, renO, renL, renV]
            rw [rens_flat (ints_flat _)]
            rfl) rfl rfl rfl rfl rfl
theorem th_last (js : List Nat) :
    BaseOk Tryz.prog 1 37 ⟨3, clD o n c c1 c2 r ++ [(0, .cells cs sz)]⟩ (thE o n c w (thS js) n) (thH (clD o n c c1 c2 r) cs sz js) (.exit 0) (thE o n c w (thS js) n) (thH (clD o n c c1 c2 r) cs sz js) (fun Q a w => thA.wp Tryz.prog Q a w) := by
  cases js with
  | nil =>
    exact round_told (C := thR la0 []) (H0 := ⟨3, clD o n c c1 c2 r ++ [(0, .cells cs sz)]⟩) (e := thE o n c w nilS n) (H := ⟨3, clD o n c c1 c2 r ++ [(0, .cells cs sz)]⟩) (n := 60) (ts := [21, 20, 19, 4, 2, 9]) (bo := [2, 1, 5]) (bs := [])
        (A := clD o n c c1 c2 r) (B := [(0, .cells cs sz)]) (D := clD o n c c1 c2 r) (thR_ok _ .nil) zm_ok thA_loops
        (by unfold thR
            refine (th_nil fiReal _ _ _ _ _ cs sz o n c n c1 c2 r w _).trans ?_
            rw [decide_eq_false (by omega)]; rfl) rfl
        rfl rfl rfl rfl rfl rfl
  | cons j0 js =>
    exact round_told (C := thR oa3 []) (H0 := ⟨3, clD o n c c1 c2 r ++ [(0, .cells cs sz)]⟩) (e := thE o n c w (sl3 3 (j0 :: js).length) n) (H := ⟨4, clD o n c c1 c2 r ++ [(3, .cells (ints (j0 :: js)) 1), (0, .cells cs sz)]⟩) (n := 60) (ts := [21, 20, 19, 4, 2, 9]) (bo := [2, 1, 3]) (bs := [3])
        (A := clD o n c c1 c2 r ++ [(3, .cells (ints (j0 :: js)) 1)]) (B := [(0, .cells cs sz)]) (D := clD o n c c1 c2 r) (O1 := clD o n c c1 c2 r ++ [(3, .cells (ints (j0 :: js)) 1)]) (thR_ok _ .nil) zm_ok thA_loops
        (by unfold thR
            refine (th_keep fiReal _ _ _ _ _ cs _ sz o n c _ n c1 c2 r w _).trans ?_
            rw [decide_eq_false (by omega)]; rfl) rfl
        (by simp only [clD, List.cons_append, List.nil_append, renOs, renO, renL, renV]
            rw [rens_flat (ints_flat _)]
            rfl) rfl rfl rfl rfl rfl
def thV_ (v : Value) (e : Int) : Value := .tuple ⟨[v, .int .i64 e]⟩
theorem those_err (hf : inns 0 cs = true) (hc : FlatCall Tryz.prog 192 [flowV o n c, ciV c1 c2 r, .bool false] ⟨1, [(0, .cells cs sz)]⟩ (.int .i64 210)) :
    FlatCall Tryz.prog 108 [flowV o n c, ciV c1 c2 r, .int .i64 w] ⟨1, [(0, .cells cs sz)]⟩ (thV_ nilS 210) := by
  have hc' : FlatCall Tryz.prog 192 [flowV o n c, ciV c1 c2 r, .bool false] ⟨3, clD o n c c1 c2 r ++ [(0, .cells cs sz)]⟩ (.int .i64 210) := FlatCall.one hc hf (by simp) rfl
  have h := th_err fiReal (Ex × Env × Objs) rEl rSt (rAp Tryz.prog) (siC (outC subK lengthK)) (saysR Tryz.prog 192 (.int .i64 210)) cs sz o n c c1 c2 r w (fun ex e O => some (ex, e, O)) 0
  rw [says_eq hc'] at h
  exact fun_flat (C := thR la0 [(192, saysV (.int .i64 210) (saysR Tryz.prog 192 (.int .i64 210)))]) (args := [flowV o n c, ciV c1 c2 r, .int .i64 w]) (H := ⟨1, [(0, .cells cs sz)]⟩) (thR_ok _ (.cons (says_ok rfl) h192 .nil)) zm_ok Tryz.func108 th_body_ (fun a _ => noL_ok) (Nat.le_of_ble_eq_true rfl) h (.inr rfl) (vs := [nilS, .int .i64 210]) rfl rfl
theorem those_ok (hx : ElsAt cs o xs) (hn : xs.length < 900000) (hs : ∀ x ∈ xs, Seen c1 c2 S.lw x) (hf : inns 0 cs = true) (hc : FlatCall Tryz.prog 192 [flowV o xs.length c, ciV c1 c2 r, .bool false] ⟨1, [(0, .cells cs sz)]⟩ (.int .i64 0)) :
    ∃ H', (∀ j0 js, sites S w xs xs.length = j0 :: js → (3, .cells (ints (j0 :: js)) 1) ∈ H'.objs) ∧ ∀ ρ W args', Inv ρ ⟨1, [(0, .cells cs sz)]⟩ W → VRels ρ [flowV o xs.length c, ciV c1 c2 r, .int .i64 w] args' →
      Calls Tryz.prog 108 ⟨args'⟩ W fun en w' => ∃ ρ' v', en = .returned v' ∧ VRel ρ' (thV_ (thS (sites S w xs xs.length)) 0) v' ∧ Next 1 ρ ⟨1, [(0, .cells cs sz)]⟩ W ρ' H' w' := by
  have hc' : FlatCall Tryz.prog 192 [flowV o xs.length c, ciV c1 c2 r, .bool false] ⟨3, clD o xs.length c c1 c2 r ++ [(0, .cells cs sz)]⟩ (.int .i64 0) := FlatCall.one hc hf (by simp) rfl
  have hB : BaseRounds Tryz.prog 1 37 ⟨3, clD o xs.length c c1 c2 r ++ [(0, .cells cs sz)]⟩ thA (thE o xs.length c w nilS (0 : Nat)) ⟨3, clD o xs.length c c1 c2 r ++ [(0, .cells cs sz)]⟩ (.exit 0) (thE o xs.length c w (thS (sites S w xs xs.length)) xs.length) (thH (clD o xs.length c c1 c2 r) cs sz (sites S w xs xs.length)) :=
    base_count (P := Tryz.prog) (lo := 1) (sz := 37) (a := thA) (H0 := ⟨3, clD o xs.length c c1 c2 r ++ [(0, .cells cs sz)]⟩) (E := fun k : Nat => thE o xs.length c w (thS (sites S w xs k)) k) (H := fun k => thH (clD o xs.length c c1 c2 r) cs sz (sites S w xs k)) (ex := .exit 0)
      (e' := thE o xs.length c w (thS (sites S w xs xs.length)) xs.length) (H' := thH (clD o xs.length c c1 c2 r) cs sz (sites S w xs xs.length)) xs.length 0 (fun k _ hk => by
        have hk' := List.getElem?_eq_getElem (show k < xs.length by omega)
        exact th_step S hx hn hk' (hs _ (List.getElem_mem _))) (base_end (by intro h; cases h) (by simp only [Nat.zero_add]; exact th_last _))
  have hB' := @base_loop _ _ _ _ _ _ _ _ _ hB
  have h := th_top_ (told Tryz.prog (.exit 0) (thE o xs.length c w (thS (sites S w xs xs.length)) xs.length) (thH (clD o xs.length c c1 c2 r) cs sz (sites S w xs xs.length))) fiReal (Ex × Env × Objs) rEl rSt (rAp Tryz.prog) (siC (outC subK lengthK)) (saysR Tryz.prog 192 (.int .i64 0)) cs sz o xs.length c c1 c2 r w fun ex e O => some (ex, e, O)
  rw [says_eq hc'] at h
  have h := h.trans (told_eq @hB' _ _)
  rw [leave_then] at h
  generalize sites S w xs xs.length = js at h
  have key : ∀ nx O, thH (clD o xs.length c c1 c2 r) cs sz js = ⟨nx, O⟩ → ∃ H', (∀ x, x ∈ takeO [3] O → x ∈ H'.objs) ∧ ∀ ρ W args', Inv ρ ⟨1, [(0, .cells cs sz)]⟩ W → VRels ρ [flowV o xs.length c, ciV c1 c2 r, .int .i64 w] args' →
      Calls Tryz.prog 108 ⟨args'⟩ W fun en w' => ∃ ρ' v', en = .returned v' ∧ VRel ρ' (thV_ (thS js) 0) v' ∧ Next 1 ρ ⟨1, [(0, .cells cs sz)]⟩ W ρ' H' w' := by
    intro nx O e
    rw [e, th_end_] at h
    exact fun_mem (C := thR la0 [(192, saysV (.int .i64 0) (saysR Tryz.prog 192 (.int .i64 0)))]) (args := [flowV o xs.length c, ciV c1 c2 r, .int .i64 w]) (H := ⟨1, [(0, .cells cs sz)]⟩) (thR_ok _ (.cons (says_ok rfl) h192 .nil)) zm_ok Tryz.func108 th_body_ (fun a _ => slimL_ok (told_ok _ _ _ _ a)) (Nat.le_of_ble_eq_true rfl) h (.inr rfl) (vs := [thS js, .int .i64 0]) rfl
  obtain ⟨H', hO, g⟩ := key (thH (clD o xs.length c c1 c2 r) cs sz js).next (thH (clD o xs.length c c1 c2 r) cs sz js).objs rfl
  refine ⟨H', fun j0 js' e => ?_, g⟩
  subst e
  exact hO _ (by show _ ∈ [_]; exact List.mem_cons_self)
end
/-! lists of numbers that grow -/
theorem ap78 (R : Type) (cs : List Value) (n c : Nat) (cx : List Value) (off m : Nat) (k : List Value → Option R) : rAp Tryz.prog R 78 cs n c cx off m k =
    bif true && true && Nat.beq c n && Nat.blt 0 m && Nat.ble ((n + m) * 16) 140737488355328 && Nat.ble (n + m) 1099511627776 && Nat.beq cs.length (n * 1) && Nat.beq ((cx.drop off).take (m * 1)).length (m * 1) && allOne ((cx.drop off).take (m * 1)) then
      k (cs ++ (cx.drop off).take (m * 1)) else none := by kernel_rfl
theorem ap78_one {R : Type} {cs : List Value} {n a b : Nat} {k : List Value → Option R} (h1 : cs.length = n) (hn : n < 1000000) : rAp Tryz.prog R 78 cs n n [.complex .f64 a b] 0 1 k = k (cs ++ [.complex .f64 a b]) := by
  rw [ap78, h1, ble_eq_of (show (n + 1) * 16 ≤ 140737488355328 by omega), ble_eq_of (show n + 1 ≤ 1099511627776 by omega), Nat.mul_one, Nat.beq_refl]
  rfl
theorem cx_len (zs : List (Nat × Nat)) : (cxCells zs).length = zs.length := by unfold cxCells; simp
theorem cx_app (a b : List (Nat × Nat)) : cxCells (a ++ b) = cxCells a ++ cxCells b := by unfold cxCells; simp
theorem cx_flat : ∀ (zs : List (Nat × Nat)), inns 0 (cxCells zs) = true
  | [] => rfl
  | z :: r => cx_flat r
def zsS (zs : List (Nat × Nat)) : Value := match zs with | [] => nilS | _ :: _ => sl3 3 zs.length
def zsH (D : Objs) (cs : List Value) (sz : Nat) (zs : List (Nat × Nat)) : AH := match zs with | [] => ⟨3, D ++ [(0, .cells cs sz)]⟩ | _ :: _ => ⟨4, D ++ [(3, .cells (cxCells zs) 1), (0, .cells cs sz)]⟩
def inB {c1 c2 r : Nat} (S : Sight c1 c2 r) (x : El) : Bool := x.kind == 2 && decide (sideOf S x < 0)
theorem zs_sum {zs : List (Nat × Nat)} {f : Nat → Nat × Nat} {cs : List Value} {sz : Nat} {D : Objs} (hf : SumT zs f) (hn : zs.length < 900000) : FlatCall Tryz.prog 155 [zsS zs] (zsH D cs sz zs) (.complex .f64 (f zs.length).1 (f zs.length).2) := by
  cases zs with
  | nil =>
    show FlatCall Tryz.prog 155 [nilS] _ (.complex .f64 (f 0).1 (f 0).2)
    rw [hf.zero]
    exact sum_none
  | cons z zs => exact FlatCall.one (b := 3) (sum_call (sz := 1) (c := (z :: zs).length) (cxAt_cells (z :: zs)) hn hf) (cx_flat _) (by show _ ∈ D ++ [_, _]; simp) rfl
end Go.Vm
namespace Go.Vm
open Go.Proofs
set_option linter.unusedVariables false
set_option linter.unusedSimpArgs false
set_option maxRecDepth 1000000

/-! ### sources -/
def roFn : Value := .func (.func 110) #[] #[]
noncomputable def roA : Code := loopNo (codeOf 109) 0
noncomputable def roC (lim : Nat → Bool) (fi : Fi) (ge : GEl) (st : St) (ap : Ap) (si : KSi) (h : KCC) (gl : List (Nat × HSum)) : Cx :=
  cxM fi Tryz.prog (fun _ _ => none) [(195, sSi si), (110, sCC h)] [] gl [] (mmOf lim [(66, gEl ge)] st ap)
def roE (o n c : Nat) (s : Value) (k : Int) : Env := [(21, .int .i64 k), (20, .int .i64 n), (19, .slice (some ⟨0, o, none⟩) n c), (4, .pointer (some ⟨2, 0, none⟩)), (2, roFn), (9, s)]
section
variable (L : Hand) (fi : Fi) (R : Type) (ge : GEl) (st : St) (ap : Ap) (si : KSi) (h : KCC) (ga gs : HT) (gl : List (Nat × HSum)) (cs os : List Value) (sz o n c j k c1 c2 r z1 z2 : Nat) (s : Value) (K : Ex → Env → Objs → Option R)
theorem ro_nil : evTop (roC la0 fi ge st ap si h []) 60 noL 1 44 roA (roE o n c nilS k) ⟨3, clD o n c c1 c2 r ++ [(0, .cells cs sz)]⟩ (takeC [21, 20, 19, 4, 2, 9] [2, 1, 5] K) =
    bif decide ((k : Int) < n) then
      bif decide (0 ≤ (k : Int)) && decide ((k : Int) < n) && true then
        ge R cs (o + k * 4) fun kind a1 a2 s1 s2 p => bif kind == 2 then si R kind a1 a2 c1 c2 r fun v =>
          bif decide (v < 0) then h R s1 s2 fun u1 u2 => fi R (IntKind.i64.wrap (k + 1)) fun i => K .normal (roE o n c (sl3 5 1) i) (clD o n c c1 c2 r ++ [(5, .cells [.complex .f64 u1 u2] 1)])
          else fi R (IntKind.i64.wrap (k + 1)) fun i => K .normal (roE o n c nilS i) (clD o n c c1 c2 r)
          else fi R (IntKind.i64.wrap (k + 1)) fun i => K .normal (roE o n c nilS i) (clD o n c c1 c2 r)
      else none
    else K (.exit 0) (roE o n c nilS k) (clD o n c c1 c2 r) := by kernel_rfl
theorem ro_some : evTop (roC oa3 fi ge st ap si h []) 60 noL 1 44 roA (roE o n c (sl3 3 j) k) ⟨4, clD o n c c1 c2 r ++ [(3, .cells os 1), (0, .cells cs sz)]⟩ (takeC [21, 20, 19, 4, 2, 9] [2, 1, 6] K) =
    bif decide ((k : Int) < n) then
      bif decide (0 ≤ (k : Int)) && decide ((k : Int) < n) && true then
        ge R cs (o + k * 4) fun kind a1 a2 s1 s2 p => bif kind == 2 then si R kind a1 a2 c1 c2 r fun v =>
          bif decide (v < 0) then h R s1 s2 fun u1 u2 => ap R 78 os j j [.complex .f64 u1 u2] 0 1 fun os => fi R (IntKind.i64.wrap (k + 1)) fun i => K .normal (roE o n c (sl3 6 (j + 1)) i) (clD o n c c1 c2 r ++ [(6, .cells os 1)])
          else fi R (IntKind.i64.wrap (k + 1)) fun i => K .normal (roE o n c (sl3 3 j) i) (clD o n c c1 c2 r)
          else fi R (IntKind.i64.wrap (k + 1)) fun i => K .normal (roE o n c (sl3 3 j) i) (clD o n c c1 c2 r)
      else none
    else K (.exit 0) (roE o n c (sl3 3 j) k) (clD o n c c1 c2 r) := by kernel_rfl
theorem ro_keep : evTop (roC oa3 fi ge st ap si h []) 60 noL 1 44 roA (roE o n c (sl3 3 j) k) ⟨4, clD o n c c1 c2 r ++ [(3, .cells os 1), (0, .cells cs sz)]⟩ (takeC [21, 20, 19, 4, 2, 9] [2, 1, 3] K) =
    bif decide ((k : Int) < n) then
      bif decide (0 ≤ (k : Int)) && decide ((k : Int) < n) && true then
        ge R cs (o + k * 4) fun kind a1 a2 s1 s2 p => bif kind == 2 then si R kind a1 a2 c1 c2 r fun v =>
          bif decide (v < 0) then h R s1 s2 fun u1 u2 => ap R 78 os j j [.complex .f64 u1 u2] 0 1 fun os => fi R (IntKind.i64.wrap (k + 1)) fun i => K .normal (roE o n c (sl3 6 (j + 1)) i) (clD o n c c1 c2 r)
          else fi R (IntKind.i64.wrap (k + 1)) fun i => K .normal (roE o n c (sl3 3 j) i) (clD o n c c1 c2 r ++ [(3, .cells os 1)])
          else fi R (IntKind.i64.wrap (k + 1)) fun i => K .normal (roE o n c (sl3 3 j) i) (clD o n c c1 c2 r ++ [(3, .cells os 1)])
      else none
    else K (.exit 0) (roE o n c (sl3 3 j) k) (clD o n c c1 c2 r ++ [(3, .cells os 1)]) := by kernel_rfl
theorem ro_top : evTop (roC la0 fi ge st ap si h [(192, saysV (.int .i64 0) ga), (155, saysV (.complex .f64 z1 z2) gs)]) 60 (slimL [21, 20, 19, 4, 2, 9] [2, 1, 0] L) 1 44 (codeOf 109) (enumE 0 [flowV o n c, ciV c1 c2 r, roFn]) ⟨1, [(0, .cells cs sz)]⟩ (takeC [6, 7] [] K) =
    ga R [flowV o n c, ciV c1 c2 r, .bool true] ⟨3, clD o n c c1 c2 r ++ [(0, .cells cs sz)]⟩ (L R 1 44 roA (roE o n c nilS 0) ⟨3, clD o n c c1 c2 r ++ [(0, .cells cs sz)]⟩
      (leaveE 0 (thenE (fun en H => evTop (roC la0 fi ge st ap si h [(192, saysV (.int .i64 0) ga), (155, saysV (.complex .f64 z1 z2) gs)]) 60 (slimL [21, 20, 19, 4, 2, 9] [2, 1, 0] L) 1 44 (seqN 4 (codeOf 109)) en H (takeC [6, 7] [] K)) (takeC [6, 7] [] K)))) := by kernel_rfl
theorem ro_end (H : AH) : evTop (roC la0 fi ge st ap si h [(192, saysV (.int .i64 0) ga), (155, saysV (.complex .f64 z1 z2) gs)]) 60 L 1 44 (seqN 4 (codeOf 109)) (roE o n c s k) H (takeC [6, 7] [] K) =
    gs R [s] H (K .ret [(6, .complex .f64 z1 z2), (7, .int .i64 0)] []) := by kernel_rfl
end
theorem h110 : Has Tryz.prog 110 := ⟨Tryz.f110, _, Tryz.func110, by kernel_rfl, rfl⟩
def roH : KCC := fun R a b k => forceN (Op.negFloat .f64 b) fun x => k x a
theorem z_timesro (R : Type) (a b : Nat) (k : Value → Option R) : evFn (cx Tryz.prog []) 60 110 [.complex .f64 a b] k = roH R a b fun x y => k (.complex .f64 x y) := by kernel_rfl
theorem k110 : SumOk Tryz.prog 110 (sCC roH) := sumOk_of zm_ok .nil (n := 60) fun R args k r hr => by
  unfold sCC at hr; split at hr
  · exact ⟨rfl, (z_timesro R _ _ k).trans hr⟩
  · cases hr
noncomputable def roR (lim : Nat → Bool) (gl : List (Nat × HSum)) : Cx := roC lim fiReal rEl rSt (rAp Tryz.prog) (siC (outC subK lengthK)) roH gl
theorem roR_ok (lim : Nat → Bool) {gl : List (Nat × HSum)} (hg : GsOk Tryz.prog gl) : (roR lim gl).Ok := cxM_ok no_meth (.cons k195 h195 (.cons k110 h110 .nil)) no_ext hg .nil (mmOf_ok lds1)
theorem roA_loops : loopsIn roA = [] := by kernel_rfl
theorem ro_body : Tryz.f109.body = some (codeOf 109) := by kernel_rfl
def roZ (hv : El → Nat × Nat) {c1 c2 r : Nat} (S : Sight c1 c2 r) (xs : List El) (k : Nat) : List (Nat × Nat) := ((xs.take k).filter (inB S)).map hv
section
variable {cs : List Value} {sz o n c c1 c2 r : Nat} {xs : List El} (S : Sight c1 c2 r) {hv : El → Nat × Nat}
theorem roZ_step {k : Nat} {x : El} (hk : xs[k]? = some x) : roZ hv S xs (k + 1) = bif inB S x then roZ hv S xs k ++ [hv x] else roZ hv S xs k := by
  unfold roZ
  rw [List.take_add_one, hk, List.filter_append, List.map_append]
  cases h : inB S x with
  | true => simp [h]
  | false => simp [h]
theorem roZ_len (k : Nat) : (roZ hv S xs k).length ≤ k := by
  unfold roZ
  rw [List.length_map]
  have := List.length_filter_le (inB S) (xs.take k)
  rw [List.length_take] at this
  omega
theorem ro_step (hx : ElsAt cs o xs) (hn : xs.length < 900000) {k : Nat} {x : El} (hk : xs[k]? = some x) (hs : Seen c1 c2 S.lw x) (hh : ∀ (R : Type) (k : Nat → Nat → Option R), roH R x.s1 x.s2 k = k (hv x).1 (hv x).2) :
    BaseOk Tryz.prog 1 44 ⟨3, clD o xs.length c c1 c2 r ++ [(0, .cells cs sz)]⟩ (roE o xs.length c (zsS (roZ hv S xs k)) k) (zsH (clD o xs.length c c1 c2 r) cs sz (roZ hv S xs k)) .normal
      (roE o xs.length c (zsS (roZ hv S xs (k + 1))) (k + 1 : Nat)) (zsH (clD o xs.length c c1 c2 r) cs sz (roZ hv S xs (k + 1))) (fun Q a w => roA.wp Tryz.prog Q a w) := by
  have hkn := (List.getElem?_eq_some_iff.1 hk).1
  have hl := roZ_len (xs := xs) (hv := hv) S k
  rw [roZ_step S hk]
  generalize roZ hv S xs k = js at hl
  cases js with
  | nil =>
    cases hb : inB S x with
    | true =>
      show BaseOk Tryz.prog 1 44 _ (roE o xs.length c nilS k) ⟨3, clD o xs.length c c1 c2 r ++ [(0, .cells cs sz)]⟩ _ (roE o xs.length c (sl3 3 1) (k + 1 : Nat)) ⟨4, clD o xs.length c c1 c2 r ++ [(3, .cells [.complex .f64 (hv x).1 (hv x).2] 1), (0, .cells cs sz)]⟩ _
      unfold inB at hb
      simp only [Bool.and_eq_true] at hb
      exact round_told (C := roR la0 []) (H0 := ⟨3, clD o xs.length c c1 c2 r ++ [(0, .cells cs sz)]⟩) (e := roE o xs.length c nilS k) (H := ⟨3, clD o xs.length c c1 c2 r ++ [(0, .cells cs sz)]⟩) (n := 60) (ts := [21, 20, 19, 4, 2, 9]) (bo := [2, 1, 5]) (bs := [5])
        (A := clD o xs.length c c1 c2 r ++ [(3, .cells [.complex .f64 (hv x).1 (hv x).2] 1)]) (B := [(0, .cells cs sz)]) (D := clD o xs.length c c1 c2 r) (roR_ok _ .nil) zm_ok roA_loops
        (by unfold roR
            refine (ro_nil fiReal _ _ _ _ _ _ cs sz o xs.length c k c1 c2 r _).trans ?_
            rw [decide_eq_true (show (k : Int) < xs.length by omega), cond_true, idx_ok, cond_true, rEl_at hx hk, hb.1, cond_true, siC_at S hs, hb.2, cond_true, hh, fiReal_fair, wrap_up (by omega)]) rfl
        rfl rfl rfl rfl rfl rfl
    | false =>
      show BaseOk Tryz.prog 1 44 _ (roE o xs.length c nilS k) ⟨3, clD o xs.length c c1 c2 r ++ [(0, .cells cs sz)]⟩ _ (roE o xs.length c nilS (k + 1 : Nat)) ⟨3, clD o xs.length c c1 c2 r ++ [(0, .cells cs sz)]⟩ _
      unfold inB at hb
      exact round_told (C := roR la0 []) (H0 := ⟨3, clD o xs.length c c1 c2 r ++ [(0, .cells cs sz)]⟩) (e := roE o xs.length c nilS k) (H := ⟨3, clD o xs.length c c1 c2 r ++ [(0, .cells cs sz)]⟩) (n := 60) (ts := [21, 20, 19, 4, 2, 9]) (bo := [2, 1, 5]) (bs := [])
        (A := clD o xs.length c c1 c2 r) (B := [(0, .cells cs sz)]) (D := clD o xs.length c c1 c2 r) (e1 := roE o xs.length c nilS (k + 1 : Nat)) (O1 := clD o xs.length c c1 c2 r) (roR_ok _ .nil) zm_ok roA_loops
        (by unfold roR
            refine (ro_nil fiReal _ _ _ _ _ _ cs sz o xs.length c k c1 c2 r _).trans ?_
            rw [decide_eq_true (show (k : Int) < xs.length by omega), cond_true, idx_ok, cond_true, rEl_at hx hk]
            cases h2 : x.kind == 2 with
            | false => rw [cond_false, fiReal_fair, wrap_up (by omega)]
            | true =>
              rw [h2, Bool.true_and] at hb
              rw [cond_true, siC_at S hs, hb, cond_false, fiReal_fair, wrap_up (by omega)]) rfl
        rfl rfl rfl rfl rfl rfl
  | cons j0 js =>
    cases hb : inB S x with
    | true =>
      show BaseOk Tryz.prog 1 44 _ (roE o xs.length c (sl3 3 (j0 :: js).length) k) ⟨4, clD o xs.length c c1 c2 r ++ [(3, .cells (cxCells (j0 :: js)) 1), (0, .cells cs sz)]⟩ _
        (roE o xs.length c (sl3 3 ((j0 :: js) ++ [hv x]).length) (k + 1 : Nat)) ⟨4, clD o xs.length c c1 c2 r ++ [(3, .cells (cxCells ((j0 :: js) ++ [hv x])) 1), (0, .cells cs sz)]⟩ _
      rw [cx_app, List.length_append]
      have hf : inns 0 (cxCells (j0 :: js) ++ cxCells [hv x]) = true := inns_app (cx_flat _) (cx_flat _)
      unfold inB at hb
      simp only [Bool.and_eq_true] at hb
      exact round_told (C := roR oa3 []) (H0 := ⟨3, clD o xs.length c c1 c2 r ++ [(0, .cells cs sz)]⟩) (e := roE o xs.length c (sl3 3 (j0 :: js).length) k) (H := ⟨4, clD o xs.length c c1 c2 r ++ [(3, .cells (cxCells (j0 :: js)) 1), (0, .cells cs sz)]⟩) (n := 60) (ts := [21, 20, 19, 4, 2, 9]) (bo := [2, 1, 6]) (bs := [6])
        (A := clD o xs.length c c1 c2 r ++ [(3, .cells (cxCells (j0 :: js) ++ cxCells [hv x]) 1)]) (B := [(0, .cells cs sz)]) (D := clD o xs.length c c1 c2 r) (O1 := clD o xs.length c c1 c2 r ++ [(6, .cells (cxCells (j0 :: js) ++ cxCells [hv x]) 1)]) (roR_ok _ .nil) zm_ok roA_loops
        (by unfold roR
            refine (ro_some fiReal _ _ _ _ _ _ cs _ sz o xs.length c _ k c1 c2 r _).trans ?_
            rw [decide_eq_true (show (k : Int) < xs.length by omega), cond_true, idx_ok, cond_true, rEl_at hx hk, hb.1, cond_true, siC_at S hs, hb.2, cond_true, hh, ap78_one (cx_len _) (by omega), fiReal_fair, wrap_up (by omega)]
            rfl) rfl
        (by simp only [clD, List.cons_append, List.nil_append, renOs, renO, renL, renV]
            rw [rens_flat hf]
            rfl) rfl rfl rfl rfl rfl
    | false =>
      show BaseOk Tryz.prog 1 44 _ (roE o xs.length c (sl3 3 (j0 :: js).length) k) ⟨4, clD o xs.length c c1 c2 r ++ [(3, .cells (cxCells (j0 :: js)) 1), (0, .cells cs sz)]⟩ _
        (roE o xs.length c (sl3 3 (j0 :: js).length) (k + 1 : Nat)) ⟨4, clD o xs.length c c1 c2 r ++ [(3, .cells (cxCells (j0 :: js)) 1), (0, .cells cs sz)]⟩ _
      unfold inB at hb
      exact round_told (C := roR oa3 []) (H0 := ⟨3, clD o xs.length c c1 c2 r ++ [(0, .cells cs sz)]⟩) (e := roE o xs.length c (sl3 3 (j0 :: js).length) k) (H := ⟨4, clD o xs.length c c1 c2 r ++ [(3, .cells (cxCells (j0 :: js)) 1), (0, .cells cs sz)]⟩) (n := 60) (ts := [21, 20, 19, 4, 2, 9]) (bo := [2, 1, 3]) (bs := [3])
        (A := clD o xs.length c c1 c2 r ++ [(3, .cells (cxCells (j0 :: js)) 1)]) (B := [(0, .cells cs sz)]) (D := clD o xs.length c c1 c2 r) (e1 := roE o xs.length c (sl3 3 (j0 :: js).length) (k + 1 : Nat)) (O1 := clD o xs.length c c1 c2 r ++ [(3, .cells (cxCells (j0 :: js)) 1)]) (roR_ok _ .nil) zm_ok roA_loops
        (by unfold roR
            refine (ro_keep fiReal _ _ _ _ _ _ cs _ sz o xs.length c _ k c1 c2 r _).trans ?_
            rw [decide_eq_true (show (k : Int) < xs.length by omega), cond_true, idx_ok, cond_true, rEl_at hx hk]
            cases h2 : x.kind == 2 with
            | false => rw [cond_false, fiReal_fair, wrap_up (by omega)]
            | true =>
              rw [h2, Bool.true_and] at hb
              rw [cond_true, siC_at S hs, hb, cond_false, fiReal_fair, wrap_up (by omega)]) rfl
        (by simp only [clD, List.cons_append, List.nil_append, renOs, renO, renL, renV]
            rw [rens_flat (cx_flat _)]
            rfl) rfl rfl rfl rfl rfl
theorem ro_last (js : List (Nat × Nat)) :
    BaseOk Tryz.prog 1 44 ⟨3, clD o n c c1 c2 r ++ [(0, .cells cs sz)]⟩ (roE o n c (zsS js) n) (zsH (clD o n c c1 c2 r) cs sz js) (.exit 0) (roE o n c (zsS js) n) (zsH (clD o n c c1 c2 r) cs sz js) (fun Q a w => roA.wp Tryz.prog Q a w) := by
  cases js with
  | nil =>
    exact round_told (C := roR la0 []) (H0 := ⟨3, clD o n c c1 c2 r ++ [(0, .cells cs sz)]⟩) (e := roE o n c nilS n) (H := ⟨3, clD o n c c1 c2 r ++ [(0, .cells cs sz)]⟩) (n := 60) (ts := [21, 20, 19, 4, 2, 9]) (bo := [2, 1, 5]) (bs := [])
        (A := clD o n c c1 c2 r) (B := [(0, .cells cs sz)]) (D := clD o n c c1 c2 r) (roR_ok _ .nil) zm_ok roA_loops
        (by unfold roR
            refine (ro_nil fiReal _ _ _ _ _ _ cs sz o n c n c1 c2 r _).trans ?_
            rw [decide_eq_false (by omega)]; rfl) rfl
        rfl rfl rfl rfl rfl rfl
  | cons j0 js =>
    exact round_told (C := roR oa3 []) (H0 := ⟨3, clD o n c c1 c2 r ++ [(0, .cells cs sz)]⟩) (e := roE o n c (sl3 3 (j0 :: js).length) n) (H := ⟨4, clD o n c c1 c2 r ++ [(3, .cells (cxCells (j0 :: js)) 1), (0, .cells cs sz)]⟩) (n := 60) (ts := [21, 20, 19, 4, 2, 9]) (bo := [2, 1, 3]) (bs := [3])
        (A := clD o n c c1 c2 r ++ [(3, .cells (cxCells (j0 :: js)) 1)]) (B := [(0, .cells cs sz)]) (D := clD o n c c1 c2 r) (O1 := clD o n c c1 c2 r ++ [(3, .cells (cxCells (j0 :: js)) 1)]) (roR_ok _ .nil) zm_ok roA_loops
        (by unfold roR
            refine (ro_keep fiReal _ _ _ _ _ _ cs _ sz o n c _ n c1 c2 r _).trans ?_
            rw [decide_eq_false (by omega)]; rfl) rfl
        (by simp only [clD, List.cons_append, List.nil_append, renOs, renO, renL, renV]
            rw [rens_flat (cx_flat _)]
            rfl) rfl rfl rfl rfl rfl
theorem ro_call (hx : ElsAt cs o xs) (hn : xs.length < 900000) (hs : ∀ x ∈ xs, Seen c1 c2 S.lw x) (hh : ∀ x ∈ xs, ∀ (R : Type) (k : Nat → Nat → Option R), roH R x.s1 x.s2 k = k (hv x).1 (hv x).2) (hf : inns 0 cs = true)
    (hc : FlatCall Tryz.prog 192 [flowV o xs.length c, ciV c1 c2 r, .bool true] ⟨1, [(0, .cells cs sz)]⟩ (.int .i64 0)) {f : Nat → Nat × Nat} (hsum : SumT (roZ hv S xs xs.length) f) :
    FlatCall Tryz.prog 109 [flowV o xs.length c, ciV c1 c2 r, roFn] ⟨1, [(0, .cells cs sz)]⟩ (.tuple ⟨[.complex .f64 (f (roZ hv S xs xs.length).length).1 (f (roZ hv S xs xs.length).length).2, .int .i64 0]⟩) := by
  have hc' : FlatCall Tryz.prog 192 [flowV o xs.length c, ciV c1 c2 r, .bool true] ⟨3, clD o xs.length c c1 c2 r ++ [(0, .cells cs sz)]⟩ (.int .i64 0) := FlatCall.one hc hf (by simp) rfl
  have hB : BaseRounds Tryz.prog 1 44 ⟨3, clD o xs.length c c1 c2 r ++ [(0, .cells cs sz)]⟩ roA (roE o xs.length c nilS (0 : Nat)) ⟨3, clD o xs.length c c1 c2 r ++ [(0, .cells cs sz)]⟩ (.exit 0) (roE o xs.length c (zsS (roZ hv S xs xs.length)) xs.length) (zsH (clD o xs.length c c1 c2 r) cs sz (roZ hv S xs xs.length)) :=
    base_count (P := Tryz.prog) (lo := 1) (sz := 44) (a := roA) (H0 := ⟨3, clD o xs.length c c1 c2 r ++ [(0, .cells cs sz)]⟩) (E := fun k : Nat => roE o xs.length c (zsS (roZ hv S xs k)) k) (H := fun k => zsH (clD o xs.length c c1 c2 r) cs sz (roZ hv S xs k)) (ex := .exit 0)
      (e' := roE o xs.length c (zsS (roZ hv S xs xs.length)) xs.length) (H' := zsH (clD o xs.length c c1 c2 r) cs sz (roZ hv S xs xs.length)) xs.length 0 (fun k _ hk => by
        have hk' := List.getElem?_eq_getElem (show k < xs.length by omega)
        exact ro_step S hx hn hk' (hs _ (List.getElem_mem _)) (hh _ (List.getElem_mem _))) (base_end (by intro h; cases h) (by simp only [Nat.zero_add]; exact ro_last _))
  have hB' := @base_loop _ _ _ _ _ _ _ _ _ hB
  have hlen := roZ_len (xs := xs) (hv := hv) S xs.length
  generalize roZ hv S xs xs.length = js at hB' hsum hlen
  have h := ro_top (told Tryz.prog (.exit 0) (roE o xs.length c (zsS js) xs.length) (zsH (clD o xs.length c c1 c2 r) cs sz js)) fiReal (Ex × Env × Objs) rEl rSt (rAp Tryz.prog) (siC (outC subK lengthK)) roH (saysR Tryz.prog 192 (.int .i64 0)) (saysR Tryz.prog 155 (.complex .f64 (f js.length).1 (f js.length).2)) cs sz o xs.length c c1 c2 r (f js.length).1 (f js.length).2 fun ex e O => some (ex, e, O)
  rw [says_eq hc'] at h
  have h := h.trans (told_eq @hB' _ _)
  rw [leave_then, ro_end, says_eq (zs_sum hsum (by omega))] at h
  exact fun_flat (C := roR la0 [(192, saysV (.int .i64 0) (saysR Tryz.prog 192 (.int .i64 0))), (155, saysV (.complex .f64 (f js.length).1 (f js.length).2) (saysR Tryz.prog 155 (.complex .f64 (f js.length).1 (f js.length).2)))]) (args := [flowV o xs.length c, ciV c1 c2 r, roFn]) (H := ⟨1, [(0, .cells cs sz)]⟩) (roR_ok _ (.cons (says_ok rfl) h192 (.cons (says_ok rfl) h155 .nil))) zm_ok Tryz.func109 ro_body (fun a _ => slimL_ok (told_ok _ _ _ _ a)) (Nat.le_of_ble_eq_true rfl) h (.inr rfl) (vs := [.complex .f64 (f js.length).1 (f js.length).2, .int .i64 0]) rfl rfl
end
end Go.Vm
