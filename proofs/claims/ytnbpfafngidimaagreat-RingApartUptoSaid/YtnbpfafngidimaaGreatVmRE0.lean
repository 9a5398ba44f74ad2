/- A part of the evaluator and of what is told of floats; no conditions. What ForceLift and its small functions compute, in Lean; no conditions. -/
import Derived.Test.YtnbpfafngidimaaGreatVmZ6
import Derived.Test.YtnbpfafngidimaaGreatVmP3
namespace Go.Vm
open Go.Proofs
set_option linter.unusedVariables false
set_option linter.unusedSimpArgs false
set_option maxRecDepth 1000000

/-! ### The check once more, for doublets of any whole power -/
theorem zw_whole (tr : KFF) (R : Type) p (k : Value → Option R) : evFn (cxf fiReal Tryz.prog [] [(280, sFF tr)]) 60 245 [.float .f64 p] k = wholeB tr R p fun t => k (.bool t) := by kernel_rfl
theorem hTrunc : ExtOk Tryz.prog 280 (sFF (roundK .zero)) := fun R args k r hr => e280 R args k r (by
  unfold sFF at hr; split at hr
  · exact hr
  · cases hr)
theorem k245w : SumOk Tryz.prog 245 (sFB wholeK) := sumOk_exts (l := []) (es := [(280, sFF (roundK .zero))]) (n := 60) zm_ok .nil (exts_ok (.cons hTrunc .nil)) fun R args k r hr => by
  unfold sFB at hr; split at hr
  · simp only [forceB_eq] at hr
    exact ⟨rfl, by rw [zw_whole]; exact hr⟩
  · cases hr
theorem k199w : SumOk Tryz.prog 199 (sEI checkE) := sumOk_of zm_ok (.cons k243 h243 (.cons k80 h80 (.cons k244 h244 (.cons k245w h245 .nil)))) (n := 60) fun R args k r hr => by
  unfold sEI at hr; split at hr
  · rename_i kind a1 a2 s1 s2 p
    exact ⟨rfl, (z_echeck placeK withinK noughtK wholeK R kind a1 a2 s1 s2 p k).trans hr⟩
  · cases hr
theorem ceC_ok : (ckC fiReal rEl rSt (rAp Tryz.prog) checkE).Ok := cxM_ok no_meth (.cons k199w h199 .nil) no_ext .nil .nil (mmOf_ok lds1)
def ToldE (er : El → Int) (x : El) : Prop := ∀ (R : Type) (k : Int → Option R), checkE R x.kind x.a1 x.a2 x.s1 x.s2 x.p k = k (er x)
section
variable {cs : List Value} {sz o c : Nat} {xs : List El} {er : El → Int}
theorem ce_step (hx : ElsAt cs o xs) (hn : xs.length ≤ 256) {k : Nat} {x : El} (hk : xs[k]? = some x) (he : ToldE er x) (h0 : er x = 0) :
    BaseOk Tryz.prog 1 23 ⟨2, [(0, .cells cs sz)]⟩ (ckE o xs.length c k) ⟨2, [(0, .cells cs sz)]⟩ .normal (ckE o xs.length c (k + 1 : Nat)) ⟨2, [(0, .cells cs sz)]⟩ (fun Q a w => ckLoop.wp Tryz.prog Q a w) := by
  have hkn := (List.getElem?_eq_some_iff.1 hk).1
  exact round_told (C := ckC fiReal rEl rSt (rAp Tryz.prog) checkE) (H0 := ⟨2, [(0, .cells cs sz)]⟩) (e := ckE o xs.length c k) (H := ⟨2, [(0, .cells cs sz)]⟩) (n := 60) (ts := [13, 12, 11, 2]) (bo := []) (bs := []) (A := []) (B := [(0, .cells cs sz)]) (D := []) ceC_ok zm_ok ck_loops
    (by rw [ck_round, decide_eq_true (show (k : Int) < xs.length by omega), cond_true, idx_ok, cond_true, rEl_at hx hk, he, h0]
        show fiReal _ _ _ = _
        rw [fiReal_fair, wrap_up (by omega)]) rfl rfl rfl rfl rfl rfl rfl
theorem ce_bad (hx : ElsAt cs o xs) (hn : xs.length ≤ 256) {k : Nat} {x : El} (hk : xs[k]? = some x) (he : ToldE er x) (h0 : er x ≠ 0) :
    BaseOk Tryz.prog 1 23 ⟨2, [(0, .cells cs sz)]⟩ (ckE o xs.length c k) ⟨2, [(0, .cells cs sz)]⟩ .ret (ckX o xs.length c k (er x)) ⟨2, [(0, .cells cs sz)]⟩ (fun Q a w => ckLoop.wp Tryz.prog Q a w) := by
  have hkn := (List.getElem?_eq_some_iff.1 hk).1
  exact round_told (C := ckC fiReal rEl rSt (rAp Tryz.prog) checkE) (H0 := ⟨2, [(0, .cells cs sz)]⟩) (e := ckE o xs.length c k) (H := ⟨2, [(0, .cells cs sz)]⟩) (n := 60) (ts := [13, 12, 11, 2]) (bo := []) (bs := []) (A := []) (B := [(0, .cells cs sz)]) (D := []) ceC_ok zm_ok ck_loops
    (by rw [ck_round, decide_eq_true (show (k : Int) < xs.length by omega), cond_true, idx_ok, cond_true, rEl_at hx hk, he, show (er x != 0) = true by simpa using h0]
        rfl) rfl rfl rfl rfl rfl rfl rfl
theorem ce_last {n : Nat} :
    BaseOk Tryz.prog 1 23 ⟨2, [(0, .cells cs sz)]⟩ (ckE o n c n) ⟨2, [(0, .cells cs sz)]⟩ (.exit 0) (ckE o n c n) ⟨2, [(0, .cells cs sz)]⟩ (fun Q a w => ckLoop.wp Tryz.prog Q a w) :=
  round_told (C := ckC fiReal rEl rSt (rAp Tryz.prog) checkE) (H0 := ⟨2, [(0, .cells cs sz)]⟩) (e := ckE o n c n) (H := ⟨2, [(0, .cells cs sz)]⟩) (n := 60) (ts := [13, 12, 11, 2]) (bo := []) (bs := []) (A := []) (B := [(0, .cells cs sz)]) (D := []) ceC_ok zm_ok ck_loops
    (by rw [ck_round, decide_eq_false (by omega)]; rfl) rfl rfl rfl rfl rfl rfl rfl
theorem ce_rounds (hx : ElsAt cs o xs) (hn : xs.length ≤ 256) (he : ∀ x ∈ xs, ToldE er x) : ∀ (ys : List El) (k : Nat), xs.drop k = ys → k ≤ xs.length →
    ∃ ex e', BaseRounds Tryz.prog 1 23 ⟨2, [(0, .cells cs sz)]⟩ ckLoop (ckE o xs.length c k) ⟨2, [(0, .cells cs sz)]⟩ ex e' ⟨2, [(0, .cells cs sz)]⟩ ∧
      ((ex = .exit 0 ∧ e' = ckE o xs.length c xs.length ∧ firstEr (ys.map er) = 0) ∨ (ex = .ret ∧ ∃ j : Nat, e' = ckX o xs.length c j (firstEr (ys.map er))))
  | [], k, hd, hk => by
    have : k = xs.length := by have := congrArg List.length hd; rw [List.length_drop] at this; simp at this; omega
    subst this
    exact ⟨_, _, base_end (by intro h; cases h) ce_last, .inl ⟨rfl, rfl, rfl⟩⟩
  | y :: ys, k, hd, hk => by
    have hkx : xs[k]? = some y := by rw [← List.head?_drop, hd]; rfl
    have hm : y ∈ xs := List.mem_of_getElem? hkx
    have hl := (List.getElem?_eq_some_iff.1 hkx).1
    by_cases h0 : er y = 0
    · obtain ⟨ex, e', h1, h2⟩ := ce_rounds hx hn he ys (k + 1) (by rw [← List.tail_drop, hd]; rfl) (by omega)
      refine ⟨ex, e', base_step (ce_step hx hn hkx (he y hm) h0) h1, ?_⟩
      simp only [List.map_cons, firstEr, if_pos h0]
      exact h2
    · refine ⟨_, _, base_end (by intro h; cases h) (ce_bad hx hn hkx (he y hm) h0), .inr ⟨rfl, k, ?_⟩⟩
      simp only [List.map_cons, firstEr, if_neg h0]
/-- FLOW.CHECK: the first error, if there is one -/
theorem check_callE (hx : ElsAt cs o xs) (he : xs.length ≤ 256 → ∀ x ∈ xs, ToldE er x) : FlatCall Tryz.prog 107 [flowV o xs.length c] ⟨1, [(0, .cells cs sz)]⟩ (.int .i64 (flowEr er xs)) := by
  by_cases hn : 256 < xs.length
  · have h := ck_top fiReal noL (Ex × Env × Objs) rEl rSt (rAp Tryz.prog) checkE cs sz o xs.length c fun ex e O => some (ex, e, O)
    rw [decide_eq_true (by omega), cond_true] at h
    have := fun_flat (C := ckC fiReal rEl rSt (rAp Tryz.prog) checkE) ceC_ok zm_ok Tryz.func107 ck_body (fun a _ => slimL_ok noL_ok) (Nat.le_of_ble_eq_true rfl) h (.inr rfl) (vs := [.int .i64 7]) rfl rfl
    unfold flowEr
    rw [if_pos hn]
    exact this
  · obtain ⟨ex, e', h1, h2⟩ := ce_rounds (c := c) (sz := sz) hx (by omega) (he (by omega)) xs 0 rfl (Nat.zero_le _)
    have hl := @base_loop _ _ _ _ _ _ _ _ _ h1
    have h := ck_top fiReal (told Tryz.prog ex e' ⟨2, [(0, .cells cs sz)]⟩) (Ex × Env × Objs) rEl rSt (rAp Tryz.prog) checkE cs sz o xs.length c fun ex e O => some (ex, e, O)
    rw [decide_eq_false (by omega), cond_false] at h
    have h' := h.trans (told_eq @hl _ _)
    unfold flowEr
    rw [if_neg hn]
    rcases h2 with ⟨rfl, rfl, h2⟩ | ⟨rfl, j, rfl⟩
    · rw [leave_then, ck_end] at h'
      rw [h2]
      exact fun_flat (C := ckC fiReal rEl rSt (rAp Tryz.prog) checkE) ceC_ok zm_ok Tryz.func107 ck_body (fun a _ => slimL_ok (told_ok _ _ _ _ a)) (Nat.le_of_ble_eq_true rfl) h' (.inr rfl) (vs := [.int .i64 0]) rfl rfl
    · exact fun_flat (C := ckC fiReal rEl rSt (rAp Tryz.prog) checkE) ceC_ok zm_ok Tryz.func107 ck_body (fun a _ => slimL_ok (told_ok _ _ _ _ a)) (Nat.le_of_ble_eq_true rfl) h' (.inr rfl) (vs := [.int .i64 (firstEr (xs.map er))]) rfl rfl
end
end Go.Vm
namespace Go.Vm
set_option linter.unusedVariables false

/-! ### ForceLift -/
def timesK : KCC := fun R a b k => forceN (Op.negFloat .f64 b) fun x => k x a
/-! ### Told at once -/
end Go.Vm
namespace Go.Vm
open Go.Proofs
set_option linter.unusedVariables false
set_option linter.unusedSimpArgs false
set_option maxRecDepth 1000000

/-! ### Lists of elements that grow -/
theorem ap55 (R : Type) (cs : List Value) (n c : Nat) (cx : List Value) (off m : Nat) (k : List Value → Option R) : rAp Tryz.prog R 55 cs n c cx off m k =
    bif true && true && Nat.beq c n && Nat.blt 0 m && Nat.ble ((n + m) * 48) 140737488355328 && Nat.ble (n + m) 1099511627776 && Nat.beq cs.length (n * 4) && Nat.beq ((cx.drop off).take (m * 4)).length (m * 4) && allOne ((cx.drop off).take (m * 4)) then
      k (cs ++ (cx.drop off).take (m * 4)) else none := by kernel_rfl
theorem ap55_ok {R : Type} {cs cx : List Value} {n off m : Nat} {k : List Value → Option R} (h1 : cs.length = n * 4) (h2 : ((cx.drop off).take (m * 4)).length = m * 4) (h3 : allOne ((cx.drop off).take (m * 4)) = true) (hm : 0 < m) (hn : n + m < 1000000) :
    rAp Tryz.prog R 55 cs n n cx off m k = k (cs ++ (cx.drop off).take (m * 4)) := by
  rw [ap55, h1, h2, h3, blt_eq_of hm, ble_eq_of (show (n + m) * 48 ≤ 140737488355328 by omega), ble_eq_of (show n + m ≤ 1099511627776 by omega), Nat.beq_refl, Nat.beq_refl, Nat.beq_refl]
  rfl
theorem inns_app {n : Nat} : ∀ {a b : List Value}, inns n a = true → inns n b = true → inns n (a ++ b) = true
  | [], b, _, h => h
  | v :: r, b, ha, hb => by
    simp only [inns, Bool.and_eq_true] at ha
    simp only [List.cons_append, inns, ha.1, inns_app ha.2 hb, Bool.and_self]
theorem allOne_app : ∀ {a b : List Value}, allOne a = true → allOne b = true → allOne (a ++ b) = true
  | [], b, _, h => h
  | v :: r, b, ha, hb => by
    simp only [allOne, Bool.and_eq_true] at ha
    simp only [List.cons_append, allOne, ha.1, allOne_app ha.2 hb, Bool.and_self]
theorem renOs_row {p : Nat → Option Nat} {b k sz : Nat} {cs : List Value} {D D2 : Objs} (hk : p b = some k) (hf : inns 0 cs = true) (hD : renOs p D = some D2) : renOs p ((b, .cells cs sz) :: D) = some ((k, .cells cs sz) :: D2) := by
  simp only [renOs, renO, hk, hD, rens_flat hf, Option.bind_some]
def Row (m : Nat) (os : List Value) : Prop := os.length = m * 4 ∧ inns 0 os = true ∧ allOne os = true
theorem Row.app {m j : Nat} {os ns : List Value} (h : Row m os) (g : Row j ns) : Row (m + j) (os ++ ns) := by
  refine ⟨?_, inns_app h.2.1 g.2.1, allOne_app h.2.2 g.2.2⟩
  rw [List.length_append, h.1, g.1, Nat.add_mul]
theorem El.row (x : El) : Row 1 x.cs := ⟨rfl, rfl, rfl⟩
def cellsOf (xs : List El) : List Value := xs.flatMap El.cs
theorem cells_app (a b : List El) : cellsOf (a ++ b) = cellsOf a ++ cellsOf b := by unfold cellsOf; rw [List.flatMap_append]
theorem row_cells : ∀ (xs : List El), Row xs.length (cellsOf xs)
  | [] => ⟨rfl, rfl, rfl⟩
  | x :: r => by
    have := (El.row x).app (row_cells r)
    rw [Nat.add_comm] at this
    exact this
theorem els_cells : ∀ (xs : List El) (i : Nat) (x : El), xs[i]? = some x → ∃ rest, (cellsOf xs).drop (i * 4) = x.cs ++ rest
  | [], i, x, h => by simp at h
  | y :: r, 0, x, h => by
    simp only [List.getElem?_cons_zero, Option.some.injEq] at h
    subst h
    exact ⟨cellsOf r, rfl⟩
  | y :: r, i + 1, x, h => by
    simp only [List.getElem?_cons_succ] at h
    obtain ⟨rest, e⟩ := els_cells r i x h
    refine ⟨rest, ?_⟩
    show (y.cs ++ cellsOf r).drop ((i + 1) * 4) = _
    rw [show (i + 1) * 4 = y.cs.length + i * 4 by show _ = 4 + i * 4; omega, List.drop_append, List.drop_eq_nil_of_le (by omega), List.nil_append, Nat.add_sub_cancel_left]
    exact e
theorem elsAt_cells (xs : List El) : ElsAt (cellsOf xs) 0 xs := fun i x h => by rw [Nat.zero_add]; exact els_cells xs i x h

/-! ### Elements of one kind -/
abbrev GS := ∀ R : Type, List Value → Nat → (Nat → Nat → Nat → Nat → Option R) → Option R
/-! ### Sides, told at once -/
abbrev KAb := ∀ R : Type, Nat → Nat → Nat → Nat → Nat → Nat → Nat → Nat → Nat → Option R → Option R
end Go.Vm
namespace Go.Vm
open Go.Proofs
set_option linter.unusedVariables false
set_option linter.unusedSimpArgs false
set_option maxRecDepth 1000000

/-! ### Things, and the flow of them -/
structure Th where
  kind : Int
  x : Int
  y : Int
  s : Int
  t : Int
  p : Int
def Th.cs (h : Th) : List Value := [.int .u8 h.kind, .int .i16 h.x, .int .i16 h.y, .int .i16 h.s, .int .i16 h.t, .int .i8 h.p]
def ThAt (cs : List Value) (o : Nat) (xs : List Th) : Prop := ∀ i h, xs[i]? = some h → ∃ rest, cs.drop (o + i * 6) = h.cs ++ rest
def fI (n : Int) : Nat := floatOfInt .f64 n
def Th.el (h : Th) : El := ⟨h.kind, fI h.x, fI h.y, fI h.s, fI h.t, fI h.p⟩
def smI (x y : Int) : Bool := decide (-1000 ≤ x) && decide (x ≤ 1000) && decide (-1000 ≤ y) && decide (y ≤ 1000)
def Th.small (h : Th) : Bool := smI h.x h.y && smI h.s h.t
abbrev KG2B := ∀ R : Type, Int → Int → (Bool → Option R) → Option R
abbrev KG2C := ∀ R : Type, Int → Int → (Nat → Nat → Option R) → Option R
def sG2B (g : KG2B) : Sum := fun R args k => match args with
  | [.agg ⟨[.int .i16 x, .int .i16 y]⟩] => g R x y fun t => forceB t fun t => k (.bool t)
  | _ => none
def sG2C (g : KG2C) : Sum := fun R args k => match args with
  | [.agg ⟨[.int .i16 x, .int .i16 y]⟩] => g R x y fun a b => k (.complex .f64 a b)
  | _ => none
noncomputable def ofL : Code := loopNo (codeOf 31) 0
noncomputable def ofC (lim : Nat → Bool) (fi : Fi) (g2 : GII) (gk gp : GI) (st : St) (ap : Ap) (sm : KG2B) (of : KG2C) (gl : List (Nat × HSum)) : Cx :=
  cxM fi Tryz.prog (fun _ _ => none) [(33, sG2B sm), (32, sG2C of)] [] gl [] (mmOf lim [(54, gII .i16 g2), (5, gI .u8 gk), (143, gI .i8 gp)] st ap)
def ofE (n c : Nat) (k : Int) : Env := [(5, .int .i64 k), (0, .slice (some ⟨0, 0, none⟩) n c), (4, .pointer (some ⟨2, 0, none⟩)), (2, .pointer (some ⟨1, 0, none⟩))]
def ofX (n c : Nat) (k : Int) : Env := ofE n c k ++ [(3, .bool false)]
def ofD (v : Value) : Objs := [(2, .cells [v] 0), (1, .cells [.slice none 0 0] 0)]
def nilS : Value := .slice none 0 0
def sl3 (b j : Nat) : Value := .slice (some ⟨b, 0, none⟩) j j
def oa0 (b : Nat) : Bool := Nat.beq b 0
def oa3 (b : Nat) : Bool := Nat.beq b 0 || Nat.beq b 3
def rdB {R : Type} (g2 : GII) (gk gp : GI) (sm : KG2B) (of : KG2C) (cs : List Value) (n k : Nat) (bad : Option R) (go : Int → Nat → Nat → Nat → Nat → Nat → Option R) : Option R :=
  bif decide (0 ≤ (k : Int)) && decide ((k : Int) < n) && true then
    g2 R cs (0 + k * 6 + 1) fun x y => sm R x y fun t => bif t then
      bif decide (0 ≤ (k : Int)) && decide ((k : Int) < n) && true then
        g2 R cs (0 + k * 6 + 3) fun x y => sm R x y fun t => bif t then
          bif decide (0 ≤ (k : Int)) && decide ((k : Int) < n) && true then gk R cs (0 + k * 6 + 0) fun kind =>
          bif decide (0 ≤ (k : Int)) && decide ((k : Int) < n) && true then g2 R cs (0 + k * 6 + 1) fun x y => of R x y fun a1 a2 =>
          bif decide (0 ≤ (k : Int)) && decide ((k : Int) < n) && true then g2 R cs (0 + k * 6 + 3) fun x y => of R x y fun s1 s2 =>
          bif decide (0 ≤ (k : Int)) && decide ((k : Int) < n) && true then gp R cs (0 + k * 6 + 5) fun p => forceN (floatOfInt .f64 p) fun p => go kind a1 a2 s1 s2 p
          else none else none else none else none
        else bad
      else none
    else bad
  else none
section
variable (fi : Fi) (R : Type) (g2 : GII) (gk gp : GI) (st : St) (ap : Ap) (sm : KG2B) (of : KG2C) (cs os : List Value) (sz n c k j : Nat) (K : Ex → Env → Objs → Option R)
theorem of_round0 : evTop (ofC oa0 fi g2 gk gp st ap sm of []) 60 noL 1 62 ofL (ofE n c k) ⟨3, ofD nilS ++ [(0, .cells cs sz)]⟩ (takeC [5, 0, 4, 2, 3] [2, 1, 4] K) =
    bif decide ((k : Int) < n) then
      rdB g2 gk gp sm of cs n k (K .ret (ofX n c k) (ofD nilS)) fun kind a1 a2 s1 s2 p =>
        fi R (IntKind.i64.wrap (k + 1)) fun i => K .normal (ofE n c i) (ofD (sl3 4 1) ++ [(4, .cells [.int .u8 kind, .complex .f64 a1 a2, .complex .f64 s1 s2, .float .f64 p] 4)])
    else K (.exit 0) (ofE n c k) (ofD nilS) := by kernel_rfl
theorem of_round1 : evTop (ofC oa3 fi g2 gk gp st ap sm of []) 60 noL 1 62 ofL (ofE n c k) ⟨4, ofD (sl3 3 j) ++ [(3, .cells os 4), (0, .cells cs sz)]⟩ (takeC [5, 0, 4, 2, 3] [2, 1, 5] K) =
    bif decide ((k : Int) < n) then
      rdB g2 gk gp sm of cs n k (K .ret (ofX n c k) (ofD (sl3 3 j))) fun kind a1 a2 s1 s2 p => ap R 55 os j j [.int .u8 kind, .complex .f64 a1 a2, .complex .f64 s1 s2, .float .f64 p] 0 1 fun os =>
        fi R (IntKind.i64.wrap (k + 1)) fun i => K .normal (ofE n c i) (ofD (sl3 5 (j + 1)) ++ [(5, .cells os 4)])
    else K (.exit 0) (ofE n c k) (ofD (sl3 3 j)) := by kernel_rfl
theorem of_round2 : evTop (ofC oa3 fi g2 gk gp st ap sm of []) 60 noL 1 62 ofL (ofE n c k) ⟨4, ofD (sl3 3 j) ++ [(3, .cells os 4), (0, .cells cs sz)]⟩ (takeC [5, 0, 4, 2, 3] [2, 1, 3] K) =
    bif decide ((k : Int) < n) then
      rdB g2 gk gp sm of cs n k (K .ret (ofX n c k) (ofD (sl3 3 j) ++ [(3, .cells os 4)])) fun kind a1 a2 s1 s2 p => ap R 55 os j j [.int .u8 kind, .complex .f64 a1 a2, .complex .f64 s1 s2, .float .f64 p] 0 1 fun os =>
        fi R (IntKind.i64.wrap (k + 1)) fun i => K .normal (ofE n c i) (ofD (sl3 5 (j + 1)))
    else K (.exit 0) (ofE n c k) (ofD (sl3 3 j) ++ [(3, .cells os 4)]) := by kernel_rfl
end
end Go.Vm
namespace Go.Vm
open Go.Proofs
set_option linter.unusedVariables false
set_option linter.unusedSimpArgs false
set_option maxRecDepth 1000000

/-! ### What of makes of things -/
def smB : KG2B := fun R x y k => forceB (decide (x ≥ -1000)) fun t => match t with
  | false => k false
  | true => forceB (decide (x ≤ 1000)) fun t => match t with
    | false => k false
    | true => forceB (decide (y ≥ -1000)) fun t => match t with
      | false => k false
      | true => forceB (decide (y ≤ 1000)) fun t => k t
theorem smB_eq {R : Type} (x y : Int) (k : Bool → Option R) : smB R x y k = k (smI x y) := by
  unfold smB smI
  simp only [forceB_eq]
  cases h1 : decide (x ≥ -1000) with
  | false => rfl
  | true =>
    cases h2 : decide (x ≤ 1000) with
    | false => rfl
    | true =>
      cases h3 : decide (y ≥ -1000) with
      | false => rfl
      | true => rfl
theorem z_sm33 (R : Type) (x y : Int) (k : Value → Option R) : evFn (cx Tryz.prog []) 60 33 [.agg ⟨[.int .i16 x, .int .i16 y]⟩] k = smB R x y fun t => k (.bool t) := by kernel_rfl
theorem z_of32 (R : Type) (x y : Int) (k : Value → Option R) : evFn (cx Tryz.prog []) 60 32 [.agg ⟨[.int .i16 x, .int .i16 y]⟩] k = ofK x y fun a b => k (.complex .f64 a b) := by kernel_rfl
theorem h33 : Has Tryz.prog 33 := ⟨Tryz.f33, _, Tryz.func33, by kernel_rfl, rfl⟩
theorem h32 : Has Tryz.prog 32 := ⟨Tryz.f32, _, Tryz.func32, by kernel_rfl, rfl⟩
def of2 : KG2C := fun R x y k => ofK x y k
theorem of2_eq {R : Type} (x y : Int) (k : Nat → Nat → Option R) : of2 R x y k = k (fI x) (fI y) := by
  unfold of2 ofK fI
  simp only [forceN_eq]
theorem k33 : SumOk Tryz.prog 33 (sG2B smB) := sumOk_of zm_ok .nil (n := 60) fun R args k r hr => by
  unfold sG2B at hr; split at hr
  · refine ⟨rfl, (z_sm33 R _ _ k).trans ?_⟩
    simp only [forceB_eq] at hr
    exact hr
  · cases hr
theorem k32 : SumOk Tryz.prog 32 (sG2C of2) := sumOk_of zm_ok .nil (n := 60) fun R args k r hr => by
  unfold sG2C at hr; split at hr
  · exact ⟨rfl, (z_of32 R _ _ k).trans hr⟩
  · cases hr
theorem more54 : MoreCells Tryz.prog 54 2 := fun R cs off k => by kernel_rfl
theorem one5 : OneCell Tryz.prog 5 := fun R cs off k => by kernel_rfl
theorem one143 : OneCell Tryz.prog 143 := fun R cs off k => by kernel_rfl
noncomputable def ofR (lim : Nat → Bool) (gl : List (Nat × HSum)) : Cx := ofC lim fiReal (rII .i16) (rI .u8) (rI .i8) rSt (rAp Tryz.prog) smB of2 gl
theorem ofR_ok (lim : Nat → Bool) {gl : List (Nat × HSum)} (hg : GsOk Tryz.prog gl) : (ofR lim gl).Ok :=
  cxM_ok no_meth (.cons k33 h33 (.cons k32 h32 .nil)) no_ext hg .nil (mmOf_ok (.cons (ldII_ok more54) (.cons (ldI_ok one5) (.cons (ldI_ok one143) .nil))))
section
variable {cs : List Value} {sz c n : Nat} {xs : List Th}
theorem drop_more {l a r : List Value} {off : Nat} (h : l.drop off = a ++ r) (j : Nat) (hj : j ≤ a.length) : l.drop (off + j) = a.drop j ++ r := by
  rw [← List.drop_drop, h, List.drop_append, show j - a.length = 0 by omega, List.drop_zero]
theorem get_more {l a r : List Value} {off : Nat} (h : l.drop off = a ++ r) (j : Nat) (hj : j < a.length) : l[off + j]? = a[j]? := by
  rw [← List.getElem?_drop, h, List.getElem?_append_left hj]
/-- a round's reading -/
theorem rdB_at (hx : ThAt cs 0 xs) {k : Nat} {h : Th} (hk : xs[k]? = some h) (R : Type) (bad : Option R) (go : Int → Nat → Nat → Nat → Nat → Nat → Option R) :
    rdB (rII .i16) (rI .u8) (rI .i8) smB of2 cs xs.length k bad go = bif h.small then go h.el.kind h.el.a1 h.el.a2 h.el.s1 h.el.s2 h.el.p else bad := by
  obtain ⟨rest, e⟩ := hx k h hk
  have hkn := (List.getElem?_eq_some_iff.1 hk).1
  have hr : (decide (0 ≤ (k : Int)) && decide ((k : Int) < xs.length) && true) = true := by
    rw [decide_eq_true (show (0 : Int) ≤ (k : Int) by omega), decide_eq_true (show (k : Int) < xs.length by omega)]; rfl
  have e1 : ∀ (R : Type) (K : Int → Int → Option R), rII .i16 R cs (0 + k * 6 + 1) K = K h.x h.y := fun R K => by
    unfold rII
    rw [drop_more e 1 (by show 1 ≤ 6; omega)]; rfl
  have e3 : ∀ (R : Type) (K : Int → Int → Option R), rII .i16 R cs (0 + k * 6 + 3) K = K h.s h.t := fun R K => by
    unfold rII
    rw [drop_more e 3 (by show 3 ≤ 6; omega)]; rfl
  have e0 : ∀ (R : Type) (K : Int → Option R), rI .u8 R cs (0 + k * 6 + 0) K = K h.kind := fun R K => by
    unfold rI
    rw [get_more e 0 (by show 0 < 6; omega)]; rfl
  have e5 : ∀ (R : Type) (K : Int → Option R), rI .i8 R cs (0 + k * 6 + 5) K = K h.p := fun R K => by
    unfold rI
    rw [get_more e 5 (by show 5 < 6; omega)]; rfl
  unfold rdB Th.small
  rw [hr]
  simp only [cond_true, e1, e3, e0, e5, smB_eq, of2_eq, forceN_eq]
  cases smI h.x h.y with
  | false => rfl
  | true =>
    cases smI h.s h.t with
    | false => rfl
    | true => rfl
/-- the state behind so many rounds -/
def ofH (cs : List Value) (sz : Nat) (ys : List El) : AH := match ys with
  | [] => ⟨3, ofD nilS ++ [(0, .cells cs sz)]⟩
  | _ :: _ => ⟨4, ofD (sl3 3 ys.length) ++ [(3, .cells (cellsOf ys) 4), (0, .cells cs sz)]⟩
theorem of_loops : loopsIn ofL = [] := by kernel_rfl
theorem El.cs_eq (x : El) : ([.int .u8 x.kind, .complex .f64 x.a1 x.a2, .complex .f64 x.s1 x.s2, .float .f64 x.p] : List Value) = x.cs := rfl
theorem of_step (hx : ThAt cs 0 xs) (hn : xs.length < 900000) {k : Nat} {h : Th} (hk : xs[k]? = some h) (hs : h.small = true) {ys : List El} (hl : ys.length = k) :
    BaseOk Tryz.prog 1 62 ⟨3, ofD nilS ++ [(0, .cells cs sz)]⟩ (ofE xs.length c k) (ofH cs sz ys) .normal (ofE xs.length c (k + 1 : Nat)) (ofH cs sz (ys ++ [h.el])) (fun Q a w => ofL.wp Tryz.prog Q a w) := by
  have hkn := (List.getElem?_eq_some_iff.1 hk).1
  cases ys with
  | nil =>
    simp only [List.length_nil] at hl
    subst hl
    show BaseOk Tryz.prog 1 62 _ _ _ _ _ ⟨4, ofD (sl3 3 1) ++ [(3, .cells (h.el.cs ++ []) 4), (0, .cells cs sz)]⟩ _
    rw [List.append_nil]
    exact round_told (C := ofR oa0 []) (H0 := ⟨3, ofD nilS ++ [(0, .cells cs sz)]⟩) (e := ofE xs.length c (0 : Nat)) (H := ⟨3, ofD nilS ++ [(0, .cells cs sz)]⟩) (n := 60) (ts := [5, 0, 4, 2, 3]) (bo := [2, 1, 4]) (bs := [4])
      (A := ofD (sl3 3 1) ++ [(3, .cells h.el.cs 4)]) (B := [(0, .cells cs sz)]) (D := ofD nilS) (ofR_ok _ .nil) zm_ok of_loops
      (by unfold ofR
          refine (of_round0 fiReal _ _ _ _ _ _ _ _ cs sz xs.length c 0 _).trans ?_
          rw [decide_eq_true (show ((0 : Nat) : Int) < xs.length by omega), cond_true, rdB_at hx hk, hs, cond_true, fiReal_fair, wrap_up (by omega), El.cs_eq]) rfl
      rfl rfl rfl rfl rfl rfl
  | cons y0 ys =>
    have hc : cellsOf ((y0 :: ys) ++ [h.el]) = cellsOf (y0 :: ys) ++ h.el.cs := by
      rw [cells_app]
      show _ ++ (h.el.cs ++ []) = _
      rw [List.append_nil]
    show BaseOk Tryz.prog 1 62 _ _ _ _ _ ⟨4, ofD (sl3 3 ((y0 :: ys) ++ [h.el]).length) ++ [(3, .cells (cellsOf ((y0 :: ys) ++ [h.el])) 4), (0, .cells cs sz)]⟩ _
    rw [hc, List.length_append]
    have hf : inns 0 (cellsOf (y0 :: ys) ++ h.el.cs) = true := inns_app (row_cells _).2.1 rfl
    exact round_told (C := ofR oa3 []) (H0 := ⟨3, ofD nilS ++ [(0, .cells cs sz)]⟩) (e := ofE xs.length c k) (H := ⟨4, ofD (sl3 3 (y0 :: ys).length) ++ [(3, .cells (cellsOf (y0 :: ys)) 4), (0, .cells cs sz)]⟩) (n := 60) (ts := [5, 0, 4, 2, 3]) (bo := [2, 1, 5]) (bs := [5])
      (A := ofD (sl3 3 ((y0 :: ys).length + 1)) ++ [(3, .cells (cellsOf (y0 :: ys) ++ h.el.cs) 4)]) (B := [(0, .cells cs sz)]) (D := ofD nilS) (ofR_ok _ .nil) zm_ok of_loops
      (by unfold ofR
          refine (of_round1 fiReal _ _ _ _ _ _ _ _ cs _ sz xs.length c k _ _).trans ?_
          rw [decide_eq_true (show (k : Int) < xs.length by omega), cond_true, rdB_at hx hk, hs, cond_true, ap55_ok (row_cells (y0 :: ys)).1 rfl rfl (by omega) (by omega), fiReal_fair, wrap_up (by omega)]
          try rfl) rfl
      (by show renOs _ ((2, .cells [sl3 5 ((y0 :: ys).length + 1)] 0) :: (1, .cells [.slice none 0 0] 0) :: [(5, .cells (cellsOf (y0 :: ys) ++ h.el.cs) 4)]) = _
          have e := renOs_row (p := placeW 3 [5]) (b := 5) (k := 3) (sz := 4) (D := []) (D2 := []) rfl hf rfl
          simp only [renOs, renO, renL, renV] at e ⊢
          rw [rens_flat hf]
          rfl) rfl rfl rfl rfl rfl
end
end Go.Vm
namespace Go.Vm
open Go.Proofs
set_option linter.unusedVariables false
set_option linter.unusedSimpArgs false
set_option maxRecDepth 1000000

/-! ### Wall: the loop -/
def la0 (b : Nat) : Bool := Nat.beq b 0
section
variable (fi : Fi) (R : Type) (ge : GS) (st : St) (ap : Ap) (ab : KAb) (mul sub add div : KCCC) (cj ng : KCC) (chk : KE1) (sc : KCFC) (cs fs os : List Value) (sz n c m j k : Nat) (K : Ex → Env → Objs → Option R)
end
section
variable {cs : List Value} {sz n c : Nat} {xs : List El} {Good : El → Prop}
end
end Go.Vm
namespace Go.Vm
open Go.Proofs
set_option linter.unusedVariables false
set_option linter.unusedSimpArgs false
set_option maxRecDepth 1000000

/-! ### Wall and Circle -/
section
variable (L : Hand) (R : Type) (gk ms : HT) (mt : MT) (cs fs : List Value) (sz n c m k : Nat) (K : Ex → Env → Objs → Option R)
end
theorem h107 : Has Tryz.prog 107 := ⟨Tryz.f107, _, Tryz.func107, by kernel_rfl, rfl⟩
section
variable {xs : List El} {sz c : Nat} {Good : El → Prop}
end
end Go.Vm
namespace Go.Vm
open Go.Proofs
set_option linter.unusedVariables false
set_option linter.unusedSimpArgs false
set_option maxRecDepth 1000000

/-! ### of -/
theorem first_bad : ∀ {xs : List Th}, (∃ h ∈ xs, h.small = false) → ∃ (j : Nat) (h : Th), xs[j]? = some h ∧ h.small = false ∧ ∀ (i : Nat) (g : Th), i < j → xs[i]? = some g → g.small = true
  | [], ⟨h, hm, _⟩ => by simp at hm
  | x :: r, ⟨h, hm, hs⟩ => by
    cases hx : x.small with
    | false => exact ⟨0, x, rfl, hx, fun i g hi => by omega⟩
    | true =>
      rcases List.mem_cons.1 hm with rfl | hm
      · rw [hx] at hs; cases hs
      · obtain ⟨j, g, h1, h2, h3⟩ := first_bad (xs := r) ⟨h, hm, hs⟩
        refine ⟨j + 1, g, by simpa using h1, h2, fun i u hi hu => ?_⟩
        cases i with
        | zero => simp only [List.getElem?_cons_zero, Option.some.injEq] at hu; subst hu; exact hx
        | succ i => exact h3 i u (by omega) (by simpa using hu)
def els (xs : List Th) : List El := xs.map Th.el
section
variable {cs : List Value} {sz c n : Nat} {xs : List Th}
theorem els_take {k : Nat} {h : Th} (hk : xs[k]? = some h) : els (xs.take (k + 1)) = els (xs.take k) ++ [h.el] := by
  unfold els
  rw [List.take_add_one, hk]
  simp
theorem els_len (k : Nat) (h : k ≤ xs.length) : (els (xs.take k)).length = k := by unfold els; simp; omega
theorem of_bad (hx : ThAt cs 0 xs) (hn : xs.length < 900000) {k : Nat} {h : Th} (hk : xs[k]? = some h) (hs : h.small = false) {ys : List El} (hl : ys.length = k) :
    ∃ v nx, BaseOk Tryz.prog 1 62 ⟨3, ofD nilS ++ [(0, .cells cs sz)]⟩ (ofE xs.length c k) (ofH cs sz ys) .ret (ofX xs.length c k) ⟨nx, ofD v ++ [(0, .cells cs sz)]⟩ (fun Q a w => ofL.wp Tryz.prog Q a w) := by
  have hkn := (List.getElem?_eq_some_iff.1 hk).1
  cases ys with
  | nil =>
    simp only [List.length_nil] at hl
    subst hl
    refine ⟨nilS, 3, ?_⟩
    exact round_told (C := ofR oa0 []) (H0 := ⟨3, ofD nilS ++ [(0, .cells cs sz)]⟩) (e := ofE xs.length c (0 : Nat)) (H := ⟨3, ofD nilS ++ [(0, .cells cs sz)]⟩) (n := 60) (ts := [5, 0, 4, 2, 3]) (bo := [2, 1, 4]) (bs := [])
      (A := ofD nilS) (B := [(0, .cells cs sz)]) (D := ofD nilS) (ofR_ok _ .nil) zm_ok of_loops
      (by unfold ofR
          refine (of_round0 fiReal _ _ _ _ _ _ _ _ cs sz xs.length c 0 _).trans ?_
          rw [decide_eq_true (show ((0 : Nat) : Int) < xs.length by omega), cond_true, rdB_at hx hk, hs, cond_false]) rfl
      rfl rfl rfl rfl rfl rfl
  | cons y0 ys =>
    refine ⟨sl3 3 (y0 :: ys).length, 4, ?_⟩
    exact round_told (C := ofR oa3 []) (H0 := ⟨3, ofD nilS ++ [(0, .cells cs sz)]⟩) (e := ofE xs.length c k) (H := ⟨4, ofD (sl3 3 (y0 :: ys).length) ++ [(3, .cells (cellsOf (y0 :: ys)) 4), (0, .cells cs sz)]⟩) (n := 60) (ts := [5, 0, 4, 2, 3]) (bo := [2, 1, 5]) (bs := [3])
      (A := ofD (sl3 3 (y0 :: ys).length)) (B := [(0, .cells cs sz)]) (D := ofD nilS) (ofR_ok _ .nil) zm_ok of_loops
      (by unfold ofR
          refine (of_round1 fiReal _ _ _ _ _ _ _ _ cs _ sz xs.length c k _ _).trans ?_
          rw [decide_eq_true (show (k : Int) < xs.length by omega), cond_true, rdB_at hx hk, hs, cond_false]) rfl
      rfl rfl rfl rfl rfl rfl
theorem of_last {ys : List El} (hy : 0 < ys.length) :
    BaseOk Tryz.prog 1 62 ⟨3, ofD nilS ++ [(0, .cells cs sz)]⟩ (ofE n c n) (ofH cs sz ys) (.exit 0) (ofE n c n) ⟨4, (ofD (sl3 3 ys.length) ++ [(3, .cells (cellsOf ys) 4)]) ++ [(0, .cells cs sz)]⟩ (fun Q a w => ofL.wp Tryz.prog Q a w) := by
  cases ys with
  | nil => simp at hy
  | cons y0 ys =>
    exact round_told (C := ofR oa3 []) (H0 := ⟨3, ofD nilS ++ [(0, .cells cs sz)]⟩) (e := ofE n c n) (H := ⟨4, ofD (sl3 3 (y0 :: ys).length) ++ [(3, .cells (cellsOf (y0 :: ys)) 4), (0, .cells cs sz)]⟩) (n := 60) (ts := [5, 0, 4, 2, 3]) (bo := [2, 1, 3]) (bs := [3])
      (A := ofD (sl3 3 (y0 :: ys).length) ++ [(3, .cells (cellsOf (y0 :: ys)) 4)]) (B := [(0, .cells cs sz)]) (D := ofD nilS) (ofR_ok _ .nil) zm_ok of_loops
      (by unfold ofR
          refine (of_round2 fiReal _ _ _ _ _ _ _ _ cs _ sz n c n _ _).trans ?_
          rw [decide_eq_false (by omega)]
          rfl) rfl
      (by simp only [ofD, sl3, List.cons_append, List.nil_append, renOs, renO, renL, renV]
          rw [rens_flat (row_cells _).2.1]
          rfl) rfl rfl rfl rfl rfl
theorem of_last0 :
    BaseOk Tryz.prog 1 62 ⟨3, ofD nilS ++ [(0, .cells cs sz)]⟩ (ofE 0 c (0 : Nat)) ⟨3, ofD nilS ++ [(0, .cells cs sz)]⟩ (.exit 0) (ofE 0 c (0 : Nat)) ⟨3, ofD nilS ++ [(0, .cells cs sz)]⟩ (fun Q a w => ofL.wp Tryz.prog Q a w) := by
  exact round_told (C := ofR oa0 []) (H0 := ⟨3, ofD nilS ++ [(0, .cells cs sz)]⟩) (e := ofE 0 c (0 : Nat)) (H := ⟨3, ofD nilS ++ [(0, .cells cs sz)]⟩) (n := 60) (ts := [5, 0, 4, 2, 3]) (bo := [2, 1, 4]) (bs := [])
      (A := ofD nilS) (B := [(0, .cells cs sz)]) (D := ofD nilS) (ofR_ok _ .nil) zm_ok of_loops
      (by unfold ofR
          refine (of_round0 fiReal _ _ _ _ _ _ _ _ cs sz 0 c 0 _).trans ?_
          rw [decide_eq_false (by omega)]
          rfl) rfl
      rfl rfl rfl rfl rfl rfl
theorem of_rounds_good (hx : ThAt cs 0 xs) (hn : xs.length < 900000) (h0 : 0 < xs.length) (hs : ∀ h ∈ xs, h.small = true) :
    BaseRounds Tryz.prog 1 62 ⟨3, ofD nilS ++ [(0, .cells cs sz)]⟩ ofL (ofE xs.length c (0 : Nat)) ⟨3, ofD nilS ++ [(0, .cells cs sz)]⟩ (.exit 0) (ofE xs.length c xs.length) ⟨4, (ofD (sl3 3 xs.length) ++ [(3, .cells (cellsOf (els xs)) 4)]) ++ [(0, .cells cs sz)]⟩ := by
  have hl : (els xs).length = xs.length := by unfold els; simp
  refine base_count (E := fun k : Nat => ofE xs.length c k) (H := fun k => ofH cs sz (els (xs.take k))) xs.length 0 (fun k _ hk => ?_) (base_end (by intro h; cases h) ?_)
  · have hk' := List.getElem?_eq_getElem (show k < xs.length by omega)
    rw [els_take hk']
    exact of_step hx hn hk' (hs _ (List.getElem_mem _)) (els_len k (by omega))
  · simp only [Nat.zero_add, List.take_length]
    have := of_last (cs := cs) (sz := sz) (n := xs.length) (c := c) (ys := els xs) (by omega)
    rw [hl] at this
    exact this
theorem of_rounds_bad (hx : ThAt cs 0 xs) (hn : xs.length < 900000) (hs : ∃ h ∈ xs, h.small = false) :
    ∃ (j : Nat) (v : Value) (nx : Nat), BaseRounds Tryz.prog 1 62 ⟨3, ofD nilS ++ [(0, .cells cs sz)]⟩ ofL (ofE xs.length c (0 : Nat)) ⟨3, ofD nilS ++ [(0, .cells cs sz)]⟩ .ret (ofX xs.length c j) ⟨nx, ofD v ++ [(0, .cells cs sz)]⟩ := by
  obtain ⟨j, h, h1, h2, h3⟩ := first_bad hs
  have hj := (List.getElem?_eq_some_iff.1 h1).1
  obtain ⟨v, nx, hbad⟩ := of_bad (cs := cs) (sz := sz) (c := c) (ys := els (xs.take j)) hx hn h1 h2 (els_len j (by omega))
  refine ⟨j, v, nx, base_count (E := fun k : Nat => ofE xs.length c k) (H := fun k => ofH cs sz (els (xs.take k))) j 0 (fun k _ hk => ?_) (base_end (by intro h; cases h) ?_)⟩
  · have hk' := List.getElem?_eq_getElem (show k < xs.length by omega)
    rw [els_take hk']
    exact of_step hx hn hk' (h3 k _ (by omega) hk') (els_len k (by omega))
  · simp only [Nat.zero_add]
    exact hbad
end

/-! the calls -/
section
variable (L : Hand) (fi : Fi) (R : Type) (g2 : GII) (gk gp : GI) (st : St) (ap : Ap) (sm : KG2B) (of : KG2C) (e : Int) (gc : HT) (gl : List (Nat × HSum)) (cs os : List Value) (sz n c k j : Nat) (K : Ex → Env → Objs → Option R)
theorem of_top : evTop (ofC oa0 fi g2 gk gp st ap sm of gl) 60 (slimL [5, 0, 4, 2] [2, 1, 0] L) 1 62 (codeOf 31) (enumE 0 [.slice (some ⟨0, 0, none⟩) n c]) ⟨1, [(0, .cells cs sz)]⟩ (takeC [2, 3] [1, 3] K) =
    L R 1 62 ofL (ofE n c 0) ⟨3, ofD nilS ++ [(0, .cells cs sz)]⟩ (leaveE 0 (thenE (fun en H => evTop (ofC oa0 fi g2 gk gp st ap sm of gl) 60 (slimL [5, 0, 4, 2] [2, 1, 0] L) 1 62 (seqN 3 (codeOf 31)) en H (takeC [2, 3] [1, 3] K)) (takeC [2, 3] [1, 3] K))) := by kernel_rfl
theorem of_end : evTop (ofC oa0 fi g2 gk gp st ap sm of [(107, saysV (.int .i64 e) gc)]) 60 L 1 62 (seqN 3 (codeOf 31)) (ofE n c k) ⟨4, ofD (sl3 3 j) ++ [(3, .cells os 4), (0, .cells cs sz)]⟩ (takeC [2, 3] [1, 3] K) =
    gc R [.agg ⟨[sl3 3 j]⟩] ⟨4, ofD (sl3 3 j) ++ [(3, .cells os 4), (0, .cells cs sz)]⟩ (bif e == 0 then K .ret [(2, .pointer (some ⟨1, 0, none⟩)), (3, .bool true)] [(1, .cells [sl3 3 j] 0), (3, .cells os 4)] else K .ret [(2, .pointer (some ⟨1, 0, none⟩)), (3, .bool false)] [(1, .cells [sl3 3 j] 0), (3, .cells os 4)]) := by kernel_rfl
theorem of_end0 : evTop (ofC oa0 fi g2 gk gp st ap sm of []) 60 L 1 62 (seqN 3 (codeOf 31)) (ofE n c k) ⟨3, ofD nilS ++ [(0, .cells cs sz)]⟩ (takeC [2, 3] [1, 3] K) = K .ret [(2, .pointer (some ⟨1, 0, none⟩)), (3, .bool true)] [(1, .cells [.slice none 0 0] 0)] := by kernel_rfl
end
theorem of_body : Tryz.f31.body = some (codeOf 31) := by kernel_rfl
def ofV (v : Value) (b : Bool) : Value := .tuple ⟨[.agg ⟨[v]⟩, .bool b]⟩
section
variable {cs : List Value} {sz c n : Nat} {xs : List Th}
theorem of_call_bad (hx : ThAt cs 0 xs) (hn : xs.length < 900000) (hs : ∃ h ∈ xs, h.small = false) : FlatCall Tryz.prog 31 [.slice (some ⟨0, 0, none⟩) xs.length c] ⟨1, [(0, .cells cs sz)]⟩ (ofV nilS false) := by
  obtain ⟨j, v, nx, hB⟩ := of_rounds_bad (sz := sz) (c := c) hx hn hs
  have hB' := @base_loop _ _ _ _ _ _ _ _ _ hB
  have h := of_top (told Tryz.prog .ret (ofX xs.length c j) ⟨nx, ofD v ++ [(0, .cells cs sz)]⟩) fiReal (Ex × Env × Objs) (rII .i16) (rI .u8) (rI .i8) rSt (rAp Tryz.prog) smB of2 [] cs sz xs.length c fun ex e O => some (ex, e, O)
  have h := h.trans (told_eq @hB' _ _)
  exact fun_flat (C := ofR oa0 []) (args := [.slice (some ⟨0, 0, none⟩) xs.length c]) (H := ⟨1, [(0, .cells cs sz)]⟩) (ofR_ok _ .nil) zm_ok Tryz.func31 of_body (fun a _ => slimL_ok (told_ok _ _ _ _ a)) (Nat.le_of_ble_eq_true rfl) h (.inr rfl) (vs := [.agg ⟨[nilS]⟩, .bool false]) rfl rfl
theorem of_call_empty : FlatCall Tryz.prog 31 [.slice (some ⟨0, 0, none⟩) 0 c] ⟨1, [(0, .cells cs sz)]⟩ (ofV nilS true) := by
  have hB' := @base_loop _ _ _ _ _ _ _ _ _ (base_end (by intro h; cases h) (of_last0 (cs := cs) (sz := sz) (c := c)))
  have h := of_top (told Tryz.prog (.exit 0) (ofE 0 c (0 : Nat)) ⟨3, ofD nilS ++ [(0, .cells cs sz)]⟩) fiReal (Ex × Env × Objs) (rII .i16) (rI .u8) (rI .i8) rSt (rAp Tryz.prog) smB of2 [] cs sz 0 c fun ex e O => some (ex, e, O)
  have h := h.trans (told_eq @hB' _ _)
  rw [leave_then, of_end0] at h
  exact fun_flat (C := ofR oa0 []) (args := [.slice (some ⟨0, 0, none⟩) 0 c]) (H := ⟨1, [(0, .cells cs sz)]⟩) (ofR_ok _ .nil) zm_ok Tryz.func31 of_body (fun a _ => slimL_ok (told_ok _ _ _ _ a)) (Nat.le_of_ble_eq_true rfl) h (.inr rfl) (vs := [.agg ⟨[nilS]⟩, .bool true]) rfl rfl
theorem of_call_good (hx : ThAt cs 0 xs) (hn : xs.length < 900000) (h0 : 0 < xs.length) (hs : ∀ h ∈ xs, h.small = true) {e : Int} (hck : FlatCall Tryz.prog 107 [flowV 0 xs.length xs.length] ⟨1, [(0, .cells (cellsOf (els xs)) 4)]⟩ (.int .i64 e)) :
    ∃ H', (3, .cells (cellsOf (els xs)) 4) ∈ H'.objs ∧ ∀ ρ w args', Inv ρ ⟨1, [(0, .cells cs sz)]⟩ w → VRels ρ [.slice (some ⟨0, 0, none⟩) xs.length c] args' →
      Calls Tryz.prog 31 ⟨args'⟩ w fun en w' => ∃ ρ' v', en = .returned v' ∧ VRel ρ' (ofV (sl3 3 xs.length) (e == 0)) v' ∧ Next 1 ρ ⟨1, [(0, .cells cs sz)]⟩ w ρ' H' w' := by
  have hB' := @base_loop _ _ _ _ _ _ _ _ _ (of_rounds_good (sz := sz) (c := c) hx hn h0 hs)
  have h := of_top (told Tryz.prog (.exit 0) (ofE xs.length c xs.length) ⟨4, (ofD (sl3 3 xs.length) ++ [(3, .cells (cellsOf (els xs)) 4)]) ++ [(0, .cells cs sz)]⟩) fiReal (Ex × Env × Objs) (rII .i16) (rI .u8) (rI .i8) rSt (rAp Tryz.prog) smB of2 [(107, saysV (.int .i64 e) (saysR Tryz.prog 107 (.int .i64 e)))] cs sz xs.length c fun ex e O => some (ex, e, O)
  have h := h.trans (told_eq @hB' _ _)
  rw [leave_then] at h
  have h := h.trans (of_end _ fiReal _ _ _ _ _ _ _ _ e _ cs (cellsOf (els xs)) sz xs.length c xs.length xs.length _)
  have hck' : FlatCall Tryz.prog 107 [.agg ⟨[sl3 3 xs.length]⟩] ⟨4, ofD (sl3 3 xs.length) ++ [(3, .cells (cellsOf (els xs)) 4), (0, .cells cs sz)]⟩ (.int .i64 e) := FlatCall.one (b := 3) hck (row_cells _).2.1 (by simp) rfl
  rw [says_eq hck'] at h
  have key : ∀ b, h = h → (e == 0) = b → ∃ H', (3, .cells (cellsOf (els xs)) 4) ∈ H'.objs ∧ ∀ ρ w args', Inv ρ ⟨1, [(0, .cells cs sz)]⟩ w → VRels ρ [.slice (some ⟨0, 0, none⟩) xs.length c] args' →
      Calls Tryz.prog 31 ⟨args'⟩ w fun en w' => ∃ ρ' v', en = .returned v' ∧ VRel ρ' (ofV (sl3 3 xs.length) b) v' ∧ Next 1 ρ ⟨1, [(0, .cells cs sz)]⟩ w ρ' H' w' := by
    intro b _ hb
    rw [hb] at h
    cases b with
    | true =>
      obtain ⟨H', hO, g⟩ := fun_mem (C := ofR oa0 [(107, saysV (.int .i64 e) (saysR Tryz.prog 107 (.int .i64 e)))]) (args := [.slice (some ⟨0, 0, none⟩) xs.length c]) (H := ⟨1, [(0, .cells cs sz)]⟩) (ofR_ok _ (.cons (says_ok rfl) h107 .nil)) zm_ok Tryz.func31 of_body (fun a _ => slimL_ok (told_ok _ _ _ _ a)) (Nat.le_of_ble_eq_true rfl) h (.inr rfl) (vs := [.agg ⟨[sl3 3 xs.length]⟩, .bool true]) rfl
      exact ⟨H', hO _ (by simp), g⟩
    | false =>
      obtain ⟨H', hO, g⟩ := fun_mem (C := ofR oa0 [(107, saysV (.int .i64 e) (saysR Tryz.prog 107 (.int .i64 e)))]) (args := [.slice (some ⟨0, 0, none⟩) xs.length c]) (H := ⟨1, [(0, .cells cs sz)]⟩) (ofR_ok _ (.cons (says_ok rfl) h107 .nil)) zm_ok Tryz.func31 of_body (fun a _ => slimL_ok (told_ok _ _ _ _ a)) (Nat.le_of_ble_eq_true rfl) h (.inr rfl) (vs := [.agg ⟨[sl3 3 xs.length]⟩, .bool false]) rfl
      exact ⟨H', hO _ (by simp), g⟩
  exact key _ rfl rfl
end
end Go.Vm
