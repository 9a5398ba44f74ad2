/- A part of the evaluator and of what is told of floats; no conditions. -/
import Derived.Test.YtnbpfafngidimaaGreatVmZK
namespace Go.Vm
open Go.Proofs
set_option linter.unusedVariables false
set_option linter.unusedSimpArgs false
set_option maxRecDepth 1000000
noncomputable def wA : Code := loopNo (codeOf 125) 0
noncomputable def wB : Code := loopNo (codeOf 125) 1
noncomputable def wC : Code := loopNo (codeOf 125) 2
def mirW : Value := .agg ⟨[.complex .f64 0 0, .complex .f64 4607182418800017408 0, .complex .f64 0 0, .float .f64 0]⟩
def wallM : AObj := .map .u8 [(1, .func (.func 206) #[] #[]), (2, .func (.func 207) #[] #[]), (3, .func (.func 208) #[] #[])]
def wO (cs fs : List Value) (sz : Nat) : Objs := [(6, wallM), (4, .cells fs 4), (0, .cells cs sz)]
def wD : Objs := [(7, .cells [.complex .f64 0 0, .complex .f64 4607182418800017408 0, .complex .f64 0 0, .float .f64 0] 0), (8, .cells [.slice none 0 0] 0)]
def wLa (b : Nat) : Bool := Nat.beq b 0 || Nat.beq b 4
def wLb (b : Nat) : Bool := Nat.beq b 0 || Nat.beq b 4 || Nat.beq b 9
def wLc (b : Nat) : Bool := Nat.beq b 0 || Nat.beq b 4 || Nat.beq b 10
noncomputable def wCx (lim : Nat → Bool) (fi : Fi) (ld : Ld) (st : St) (ap : Ap) (ab : KAb) (mul sub add div : KCCC) (cj ng : KCC) (chk : KE1) (sc : KCFC) : Cx :=
  cxM fi Tryz.prog (fun _ _ => none) [(127, sAb ab), (22, sCCC mul), (21, sCCC sub), (84, sCCC add), (179, sCCC div), (124, sCC cj), (86, sCC ng), (199, sEI1 chk), (39, sCFC sc)] [] [] [] (mmOf lim [(66, ld)] st ap)
def wE (n c m : Nat) (k : Int) : Env := [(22, .int .i64 k), (21, .int .i64 n), (20, .slice (some ⟨0, 0, none⟩) n c), (1, .slice (some ⟨4, 0, none⟩) m m), (2, .slice (some ⟨0, 0, none⟩) n c), (3, .map (some 6)), (4, .func (.func 127) #[mirW] #[]),
  (5, .pointer (some ⟨7, 0, none⟩)), (10, .pointer (some ⟨8, 0, none⟩)), (11, .int .i64 0)]
def wF (n c b j : Nat) (k : Int) : Env := [(48, .int .i64 k), (47, .int .i64 n), (46, .slice (some ⟨0, 0, none⟩) n c), (14, .slice (some ⟨b, 0, none⟩) j j), (3, .map (some 6)), (5, .pointer (some ⟨7, 0, none⟩)), (10, .pointer (some ⟨8, 0, none⟩)), (11, .int .i64 0)]
abbrev wK := ∀ R : Type, Nat → Nat → Nat → Nat → (Nat → Nat → Nat → Nat → Option R) → Option R
def wChain (mul sub add div : KCCC) (cj ng : KCC) : wK := fun R a1 a2 s1 s2 k => mul R 4607182418800017408 0 4607182418800017408 0 fun p1 p2 => sub R a1 a2 0 0 fun d1 d2 => cj R d1 d2 fun e1 e2 => mul R p1 p2 e1 e2 fun q1 q2 => add R 0 0 q1 q2 fun y1 y2 => cj R s1 s2 fun t1 t2 => k y1 y2 t1 t2
section
variable (fi : Fi) (R : Type) (ge : GS) (st : St) (ap : Ap) (ab : KAb) (mul sub add div : KCCC) (cj ng : KCC) (chk : KE1) (sc : KCFC) (cs fs os : List Value) (sz n c m j k : Nat) (K : Ex → Env → Objs → Option R)
theorem wA_two : evTop (wCx wLa fi (gKd 2 ge) st ap ab mul sub add div cj ng chk sc) 60 noL 7 81 wA (wE n c m k) ⟨9, wD ++ wO cs fs sz⟩ (takeC [22, 21, 20, 1, 2, 3, 4, 5, 10, 11] [7, 8] K) =
    bif decide ((k : Int) < n) then
      bif decide (0 ≤ (k : Int)) && decide ((k : Int) < n) && true then
        ge R cs (0 + k * 4) fun a1 a2 s1 s2 => ab R 0 0 4607182418800017408 0 0 0 0 a1 a2 <| fi R (IntKind.i64.wrap (k + 1)) fun i => K .normal (wE n c m i) wD
      else none
    else K (.exit 0) (wE n c m k) wD := by kernel_rfl
theorem wA_one : evTop (wCx wLa fi (gKd 1 ge) st ap ab mul sub add div cj ng chk sc) 60 noL 7 81 wA (wE n c m k) ⟨9, wD ++ wO cs fs sz⟩ (takeC [22, 21, 20, 1, 2, 3, 4, 5, 10, 11] [7, 8] K) =
    bif decide ((k : Int) < n) then
      bif decide (0 ≤ (k : Int)) && decide ((k : Int) < n) && true then
        ge R cs (0 + k * 4) fun a1 a2 s1 s2 => fi R (IntKind.i64.wrap (k + 1)) fun i => K .normal (wE n c m i) wD
      else none
    else K (.exit 0) (wE n c m k) wD := by kernel_rfl
theorem wB_two0 : evTop (wCx wLb fi (gKd 2 ge) st ap ab mul sub add div cj ng chk sc) 60 noL 7 81 wB (wF n c 9 j k) ⟨10, (9, .cells os 4) :: (wD ++ wO cs fs sz)⟩ (takeC [48, 47, 46, 14, 3, 5, 10, 11] [14, 7, 8] K) =
    bif decide ((k : Int) < n) then
      bif decide (0 ≤ (k : Int)) && decide ((k : Int) < n) && true then
        ge R cs (0 + k * 4) fun a1 a2 s1 s2 => wChain mul sub add div cj ng R a1 a2 s1 s2 fun y1 y2 t1 t2 => ap R 55 os j j [.int .u8 2, .complex .f64 y1 y2, .complex .f64 t1 t2, .float .f64 0] 0 1 fun os => fi R (IntKind.i64.wrap (k + 1)) fun i => K .normal (wF n c 14 (j + 1) i) ((14, .cells os 4) :: wD)
      else none
    else K (.exit 2) (wF n c 9 j k) wD := by kernel_rfl
theorem wB_two1 : evTop (wCx wLc fi (gKd 2 ge) st ap ab mul sub add div cj ng chk sc) 60 noL 7 81 wB (wF n c 10 j k) ⟨11, (10, .cells os 4) :: (wD ++ wO cs fs sz)⟩ (takeC [48, 47, 46, 14, 3, 5, 10, 11] [15, 7, 8] K) =
    bif decide ((k : Int) < n) then
      bif decide (0 ≤ (k : Int)) && decide ((k : Int) < n) && true then
        ge R cs (0 + k * 4) fun a1 a2 s1 s2 => wChain mul sub add div cj ng R a1 a2 s1 s2 fun y1 y2 t1 t2 => ap R 55 os j j [.int .u8 2, .complex .f64 y1 y2, .complex .f64 t1 t2, .float .f64 0] 0 1 fun os => fi R (IntKind.i64.wrap (k + 1)) fun i => K .normal (wF n c 15 (j + 1) i) ((15, .cells os 4) :: wD)
      else none
    else K (.exit 2) (wF n c 10 j k) wD := by kernel_rfl
theorem wB_end : evTop (wCx wLc fi (gKd 2 ge) st ap ab mul sub add div cj ng chk sc) 60 noL 7 81 wB (wF n c 10 j k) ⟨11, (10, .cells os 4) :: (wD ++ wO cs fs sz)⟩ (takeC [48, 47, 46, 14, 3, 5, 10, 11] [10, 7, 8] K) =
    bif decide ((k : Int) < n) then
      bif decide (0 ≤ (k : Int)) && decide ((k : Int) < n) && true then
        ge R cs (0 + k * 4) fun a1 a2 s1 s2 => wChain mul sub add div cj ng R a1 a2 s1 s2 fun y1 y2 t1 t2 => ap R 55 os j j [.int .u8 2, .complex .f64 y1 y2, .complex .f64 t1 t2, .float .f64 0] 0 1 fun os => fi R (IntKind.i64.wrap (k + 1)) fun i => K .normal (wF n c 15 (j + 1) i) wD
      else none
    else K (.exit 2) (wF n c 10 j k) ((10, .cells os 4) :: wD) := by kernel_rfl
theorem wB_one : evTop (wCx wLc fi (gKd 1 ge) st ap ab mul sub add div cj ng chk sc) 60 noL 7 81 wB (wF n c 10 j k) ⟨11, (10, .cells os 4) :: (wD ++ wO cs fs sz)⟩ (takeC [48, 47, 46, 14, 3, 5, 10, 11] [10, 7, 8] K) =
    bif decide ((k : Int) < n) then
      bif decide (0 ≤ (k : Int)) && decide ((k : Int) < n) && true then
        ge R cs (0 + k * 4) fun a1 a2 s1 s2 => bif Nat.ble j j then fi R (IntKind.i64.wrap (k + 1)) fun i => K .normal (wF n c 10 j i) ((10, .cells os 4) :: wD) else none
      else none
    else K (.exit 2) (wF n c 10 j k) ((10, .cells os 4) :: wD) := by kernel_rfl
abbrev wH (L1 L2 L3 : Hand) : Hand := orL 68 (slimL [68, 67, 66, 14, 10, 11] [10, 7, 8, 6, 4, 0] L3) (orL 48 (slimL [48, 47, 46, 14, 3, 5, 10, 11] [9, 7, 8, 6, 4, 0] L2) (slimL [22, 21, 20, 1, 2, 3, 4, 5, 10, 11] [7, 8, 6, 4, 0] L1))
variable (ld : Ld) (L1 L2 L3 : Hand)
theorem w_top1 : evTop (wCx wLa fi ld st ap ab mul sub add div cj ng chk sc) 60 (wH L1 L2 L3) 7 81 (codeOf 125) (enumE 0 [mirW, .slice (some ⟨4, 0, none⟩) m m, .slice (some ⟨0, 0, none⟩) n c, .map (some 6), .func (.func 127) #[mirW] #[]]) ⟨7, wO cs fs sz⟩ (takeC [10, 11] [8, 10] K) =
    L1 R 7 81 wA (wE n c m 0) ⟨9, wD ++ wO cs fs sz⟩ (leaveE 0 (thenE (fun e H => evTop (wCx wLa fi ld st ap ab mul sub add div cj ng chk sc) 60 (wH L1 L2 L3) 7 81 (seqN 2 (codeOf 125)) e H (takeC [10, 11] [8, 10] K)) (takeC [10, 11] [8, 10] K))) := by kernel_rfl
theorem w_top2 : evTop (wCx wLa fi ld st ap ab mul sub add div cj ng chk sc) 60 (wH L1 L2 L3) 7 81 (seqN 2 (codeOf 125)) (wE n c m k) ⟨9, wD ++ wO cs fs sz⟩ (takeC [10, 11] [8, 10] K) =
    ap R 55 [] 0 0 fs 0 m fun os => L2 R 7 81 wB (wF n c 9 m 0) ⟨10, (9, .cells os 4) :: (wD ++ wO cs fs sz)⟩ (leaveE 2 (thenE (fun e H => evTop (wCx wLa fi ld st ap ab mul sub add div cj ng chk sc) 60 (wH L1 L2 L3) 7 81 (seqN 4 (codeOf 125)) e H (takeC [10, 11] [8, 10] K)) (takeC [10, 11] [8, 10] K))) := by kernel_rfl
theorem w_top3 : evTop (wCx wLa fi ld st ap ab mul sub add div cj ng chk sc) 60 (wH L1 L2 L3) 7 81 (seqN 4 (codeOf 125)) (wF n c 10 j k) ⟨11, (10, .cells os 4) :: (wD ++ wO cs fs sz)⟩ (takeC [10, 11] [8, 10] K) =
    bif decide ((j : Int) > 256) then K .ret [(10, .pointer (some ⟨8, 0, none⟩)), (11, .int .i64 4)] [(8, .cells [.slice none 0 0] 0), (10, .cells os 4)]
    else L3 R 7 81 wC [(68, .int .i64 0), (67, .int .i64 j), (66, .slice (some ⟨10, 0, none⟩) j j), (14, .slice (some ⟨10, 0, none⟩) j j), (10, .pointer (some ⟨8, 0, none⟩)), (11, .int .i64 0)] ⟨11, (10, .cells os 4) :: (wD ++ wO cs fs sz)⟩
      (leaveE 4 (thenE (fun e H => evTop (wCx wLa fi ld st ap ab mul sub add div cj ng chk sc) 60 (wH L1 L2 L3) 7 81 (seqN 6 (codeOf 125)) e H (takeC [10, 11] [8, 10] K)) (takeC [10, 11] [8, 10] K))) := by kernel_rfl
end
noncomputable def wReal (lim : Nat → Bool) (kind : Int) : Cx := wCx lim fiReal (gKd kind (rKd kind)) rSt (rAp Tryz.prog) (aboveB conjK subK mulK) mulK subK addK divK conjK negK (eiT checkK) sclK
theorem wReal_ok (lim : Nat → Bool) (kind : Int) : (wReal lim kind).Ok := cxM_ok no_meth (.cons k127 h127 (.cons k22 h22 (.cons k21 h21 (.cons k84 h84 (.cons k179 h179 (.cons k124i h124i (.cons k86 h86 (.cons k199i h199 (.cons k39 h39 .nil))))))))) no_ext .nil .nil (mmOf_ok (.cons (ldKd_ok kind) .nil))
theorem wA_loops : loopsIn wA = [] := by kernel_rfl
theorem wB_loops : loopsIn wB = [] := by kernel_rfl
theorem wC_loops : loopsIn wC = [] := by kernel_rfl
/-- a source on the right side, of images that are so -/
structure wSrc (Good : El → Prop) (x : El) : Prop where
  kind : x.kind = 2
  p : x.p = 0
  side : ∀ (R : Type) (k : Option R), (aboveB conjK subK mulK) R 0 0 4607182418800017408 0 0 0 0 x.a1 x.a2 k = k
  img : ∃ y1 y2 t1 t2, Good ⟨2, y1, y2, t1, t2, 0⟩ ∧ ∀ (R : Type) (k : Nat → Nat → Nat → Nat → Option R), wChain mulK subK addK divK conjK negK R x.a1 x.a2 x.s1 x.s2 k = k y1 y2 t1 t2
structure wStr (Good : El → Prop) (x : El) : Prop where
  kind : x.kind = 1
  p : x.p = 0
  img : True
section
variable {cs fs : List Value} {sz n c m : Nat} {xs : List El} {Good : El → Prop}
theorem wA_step (hx : ElsAt cs 0 xs) (hn : xs.length < 1000) {k : Nat} {x : El} (hk : xs[k]? = some x) (h : wSrc Good x ∨ wStr Good x) :
    BaseOk Tryz.prog 7 81 ⟨9, wD ++ wO cs fs sz⟩ (wE xs.length c m k) ⟨9, wD ++ wO cs fs sz⟩ .normal (wE xs.length c m (k + 1 : Nat)) ⟨9, wD ++ wO cs fs sz⟩ (fun Q a w => wA.wp Tryz.prog Q a w) := by
  have hkn := (List.getElem?_eq_some_iff.1 hk).1
  rcases h with h | h
  · exact round_told (C := wReal wLa 2) (H0 := ⟨9, wD ++ wO cs fs sz⟩) (e := wE xs.length c m k) (H := ⟨9, wD ++ wO cs fs sz⟩) (n := 60) (ts := [22, 21, 20, 1, 2, 3, 4, 5, 10, 11]) (bo := [7, 8]) (bs := []) (A := wD) (B := wO cs fs sz) (D := wD) (wReal_ok _ _) zm_ok wA_loops
      (by unfold wReal
          rw [wA_two, decide_eq_true (show (k : Int) < xs.length by omega), cond_true, idx_ok, cond_true, rKd_at hx hk h.kind h.p, h.side, fiReal_fair, wrap_up (by omega)]) rfl rfl rfl rfl rfl rfl rfl
  · exact round_told (C := wReal wLa 1) (H0 := ⟨9, wD ++ wO cs fs sz⟩) (e := wE xs.length c m k) (H := ⟨9, wD ++ wO cs fs sz⟩) (n := 60) (ts := [22, 21, 20, 1, 2, 3, 4, 5, 10, 11]) (bo := [7, 8]) (bs := []) (A := wD) (B := wO cs fs sz) (D := wD) (wReal_ok _ _) zm_ok wA_loops
      (by unfold wReal
          rw [wA_one, decide_eq_true (show (k : Int) < xs.length by omega), cond_true, idx_ok, cond_true, rKd_at hx hk h.kind h.p, fiReal_fair, wrap_up (by omega)]) rfl rfl rfl rfl rfl rfl rfl
theorem wA_last :
    BaseOk Tryz.prog 7 81 ⟨9, wD ++ wO cs fs sz⟩ (wE n c m n) ⟨9, wD ++ wO cs fs sz⟩ (.exit 0) (wE n c m n) ⟨9, wD ++ wO cs fs sz⟩ (fun Q a w => wA.wp Tryz.prog Q a w) :=
  round_told (C := wReal wLa 2) (H0 := ⟨9, wD ++ wO cs fs sz⟩) (e := wE n c m n) (H := ⟨9, wD ++ wO cs fs sz⟩) (n := 60) (ts := [22, 21, 20, 1, 2, 3, 4, 5, 10, 11]) (bo := [7, 8]) (bs := []) (A := wD) (B := wO cs fs sz) (D := wD) (wReal_ok _ _) zm_ok wA_loops
    (by unfold wReal
        rw [wA_two, decide_eq_false (by omega)]; rfl) rfl rfl rfl rfl rfl rfl rfl
theorem wA_rounds (hx : ElsAt cs 0 xs) (hn : xs.length < 1000) (h : ∀ x ∈ xs, wSrc Good x ∨ wStr Good x) :
    BaseRounds Tryz.prog 7 81 ⟨9, wD ++ wO cs fs sz⟩ wA (wE xs.length c m 0) ⟨9, wD ++ wO cs fs sz⟩ (.exit 0) (wE xs.length c m xs.length) ⟨9, wD ++ wO cs fs sz⟩ :=
  base_count (E := fun k : Nat => wE xs.length c m k) (H := fun _ => ⟨9, wD ++ wO cs fs sz⟩) xs.length 0
    (fun i _ hi => by
      have hi' : i < xs.length := by omega
      exact wA_step hx hn (List.getElem?_eq_getElem hi') (h _ (List.getElem_mem hi')))
    (base_end (by intro h; cases h) (by simp only [Nat.zero_add]; exact wA_last))

/-! the images -/
def wBo : Nat → Nat | 0 => 9 | _ + 1 => 10
def wNo : Nat → Nat | 0 => 10 | _ + 1 => 11
def wLen (m ns k : Nat) : Nat := m + 1 * min k ns + 0 * (k - ns)
def wInv (Good : El → Prop) (m ns k : Nat) (ys : List El) : Prop := ys.length = wLen m ns k ∧ ∀ y ∈ ys, Good y
theorem wB_step {ys0 : List El} (hx : ElsAt cs 0 xs) {ns : Nat} (hn : xs.length < 1000) (hm : m < 1000) {k : Nat} {x : El} (hk : xs[k]? = some x) (h : (k < ns ∧ wSrc Good x) ∨ (ns = k ∧ 0 < k ∧ wStr Good x)) {ys : List El} (hi : wInv Good m ns k ys) :
    ∃ ys', wInv Good m ns (k + 1) ys' ∧ BaseOk Tryz.prog 7 81 ⟨10, (9, .cells (cellsOf ys0) 4) :: wD ++ wO cs fs sz⟩ (wF xs.length c (wBo k) ys.length k) ⟨wNo k, (wBo k, .cells (cellsOf ys) 4) :: (wD ++ wO cs fs sz)⟩ .normal
      (wF xs.length c (wBo (k + 1)) ys'.length (k + 1 : Nat)) ⟨wNo (k + 1), (wBo (k + 1), .cells (cellsOf ys') 4) :: (wD ++ wO cs fs sz)⟩ (fun Q a w => wB.wp Tryz.prog Q a w) := by
  have hkn := (List.getElem?_eq_some_iff.1 hk).1
  obtain ⟨hl, hg⟩ := hi
  have hl1000 : ys.length < 10000 := by rw [hl]; unfold wLen; omega
  rcases h with ⟨hns, h⟩ | ⟨hns, hk0, h⟩
  · obtain ⟨y1, y2, t1, t2, hy, h1⟩ := h.img
    refine ⟨ys ++ [(⟨2, y1, y2, t1, t2, 0⟩ : El)], ⟨by rw [List.length_append, hl]; unfold wLen; simp only [List.length_cons, List.length_nil]; omega, fun y hy => ?_⟩, ?_⟩
    · rcases List.mem_append.1 hy with hy | hy
      · exact hg y hy
      · simp only [List.mem_singleton] at hy
        subst hy
        assumption
    · have hcs : cellsOf (ys ++ [(⟨2, y1, y2, t1, t2, 0⟩ : El)]) = cellsOf ys ++ [.int .u8 2, .complex .f64 y1 y2, .complex .f64 t1 t2, .float .f64 0] := cells_app _ _
      have hln : (ys ++ [(⟨2, y1, y2, t1, t2, 0⟩ : El)]).length = ys.length + 1 := by simp
      rw [hcs, hln]
      have hf : inns 0 (cellsOf ys ++ [.int .u8 2, .complex .f64 y1 y2, .complex .f64 t1 t2, .float .f64 0]) = true := inns_app (row_cells ys).2.1 rfl
      cases k with
      | zero =>
        exact round_told (C := wReal wLb 2) (H0 := ⟨10, (9, .cells (cellsOf ys0) 4) :: wD ++ wO cs fs sz⟩) (e := wF xs.length c 9 ys.length (0 : Nat)) (H := ⟨10, (9, .cells (cellsOf ys) 4) :: (wD ++ wO cs fs sz)⟩) (n := 60) (ts := [48, 47, 46, 14, 3, 5, 10, 11]) (bo := [14, 7, 8]) (bs := [14]) (A := (10, .cells (cellsOf ys ++ [.int .u8 2, .complex .f64 y1 y2, .complex .f64 t1 t2, .float .f64 0]) 4) :: wD) (B := wO cs fs sz) (D := (9, .cells (cellsOf ys0) 4) :: wD) (wReal_ok _ _) zm_ok wB_loops
          (by unfold wReal
              rw [wB_two0, decide_eq_true (show ((0 : Nat) : Int) < xs.length by omega), cond_true, idx_ok, cond_true, rKd_at hx hk h.kind h.p, h1, ap55_ok (row_cells ys).1 rfl rfl (by omega) (by omega), fiReal_fair, wrap_up (by omega)]
              try rfl) rfl
          (renOs_row rfl hf rfl) rfl rfl rfl rfl rfl
      | succ k =>
        exact round_told (C := wReal wLc 2) (H0 := ⟨10, (9, .cells (cellsOf ys0) 4) :: wD ++ wO cs fs sz⟩) (e := wF xs.length c 10 ys.length (k + 1 : Nat)) (H := ⟨11, (10, .cells (cellsOf ys) 4) :: (wD ++ wO cs fs sz)⟩) (n := 60) (ts := [48, 47, 46, 14, 3, 5, 10, 11]) (bo := [15, 7, 8]) (bs := [15]) (A := (10, .cells (cellsOf ys ++ [.int .u8 2, .complex .f64 y1 y2, .complex .f64 t1 t2, .float .f64 0]) 4) :: wD) (B := wO cs fs sz) (D := (9, .cells (cellsOf ys0) 4) :: wD) (wReal_ok _ _) zm_ok wB_loops
          (by unfold wReal
              rw [wB_two1, decide_eq_true (show ((k + 1 : Nat) : Int) < xs.length by omega), cond_true, idx_ok, cond_true, rKd_at hx hk h.kind h.p, h1, ap55_ok (row_cells ys).1 rfl rfl (by omega) (by omega), fiReal_fair, wrap_up (by omega)]
              try rfl) rfl
          (renOs_row rfl hf rfl) rfl rfl rfl rfl rfl
  · obtain ⟨k, rfl⟩ : ∃ j, k = j + 1 := ⟨k - 1, by omega⟩
    refine ⟨ys, ⟨by rw [hl]; unfold wLen; omega, hg⟩, ?_⟩
    exact round_told (C := wReal wLc 1) (H0 := ⟨10, (9, .cells (cellsOf ys0) 4) :: wD ++ wO cs fs sz⟩) (e := wF xs.length c 10 ys.length (k + 1 : Nat)) (H := ⟨11, (10, .cells (cellsOf ys) 4) :: (wD ++ wO cs fs sz)⟩) (n := 60) (ts := [48, 47, 46, 14, 3, 5, 10, 11]) (bo := [10, 7, 8]) (bs := [10]) (A := (10, .cells (cellsOf ys) 4) :: wD) (B := wO cs fs sz) (D := (9, .cells (cellsOf ys0) 4) :: wD) (wReal_ok _ _) zm_ok wB_loops
      (by unfold wReal
          rw [wB_one, decide_eq_true (show ((k + 1 : Nat) : Int) < xs.length by omega), cond_true, idx_ok, cond_true, rKd_at hx hk h.kind h.p, ble_eq_of (Nat.le_refl _), cond_true, fiReal_fair, wrap_up (by omega)]) rfl
      (renOs_row rfl (row_cells ys).2.1 rfl) rfl rfl rfl rfl rfl
theorem wB_last {ys0 ys : List El} (k0 : Nat) (hk : n = k0 + 1) :
    BaseOk Tryz.prog 7 81 ⟨10, (9, .cells (cellsOf ys0) 4) :: wD ++ wO cs fs sz⟩ (wF n c 10 ys.length n) ⟨11, (10, .cells (cellsOf ys) 4) :: (wD ++ wO cs fs sz)⟩ (.exit 2)
      (wF n c 10 ys.length n) ⟨11, (10, .cells (cellsOf ys) 4) :: (wD ++ wO cs fs sz)⟩ (fun Q a w => wB.wp Tryz.prog Q a w) :=
  round_told (C := wReal wLc 2) (H0 := ⟨10, (9, .cells (cellsOf ys0) 4) :: wD ++ wO cs fs sz⟩) (e := wF n c 10 ys.length n) (H := ⟨11, (10, .cells (cellsOf ys) 4) :: (wD ++ wO cs fs sz)⟩) (n := 60) (ts := [48, 47, 46, 14, 3, 5, 10, 11]) (bo := [10, 7, 8]) (bs := [10]) (A := (10, .cells (cellsOf ys) 4) :: wD) (B := wO cs fs sz) (D := (9, .cells (cellsOf ys0) 4) :: wD) (wReal_ok _ _) zm_ok wB_loops
    (by unfold wReal
        rw [wB_end, decide_eq_false (by omega)]; rfl) rfl
    (renOs_row rfl (row_cells ys).2.1 rfl) rfl rfl rfl rfl rfl
theorem wB_rounds {ys0 : List El} (hx : ElsAt cs 0 xs) {ns : Nat} (hn : xs.length < 1000) (hm : m < 1000) (h0 : 0 < ns) (hns : ns ≤ xs.length) (hns1 : xs.length ≤ ns + 1)
    (h1 : ∀ k x, xs[k]? = some x → k < ns → wSrc Good x) (h2 : ∀ x, xs[ns]? = some x → wStr Good x) (hl : ys0.length = m) (hg : ∀ y ∈ ys0, Good y) :
    ∃ ys, wInv Good m ns xs.length ys ∧ BaseRounds Tryz.prog 7 81 ⟨10, (9, .cells (cellsOf ys0) 4) :: wD ++ wO cs fs sz⟩ wB (wF xs.length c 9 m 0) ⟨10, (9, .cells (cellsOf ys0) 4) :: (wD ++ wO cs fs sz)⟩ (.exit 2)
      (wF xs.length c 10 ys.length xs.length) ⟨11, (10, .cells (cellsOf ys) 4) :: (wD ++ wO cs fs sz)⟩ := by
  have := base_while (P := Tryz.prog) (lo := 7) (sz := 81) (a := wB) (H0 := ⟨10, (9, .cells (cellsOf ys0) 4) :: wD ++ wO cs fs sz⟩) (E := fun k ys => wF xs.length c (wBo k) ys.length k) (H := fun k ys => ⟨wNo k, (wBo k, .cells (cellsOf ys) 4) :: (wD ++ wO cs fs sz)⟩)
    (ex := .exit 2) (e' := fun ys => wF xs.length c 10 ys.length xs.length) (H' := fun ys => ⟨11, (10, .cells (cellsOf ys) 4) :: (wD ++ wO cs fs sz)⟩) xs.length (wInv Good m ns)
    (fun k ys hk hi => by
      have hk' := List.getElem?_eq_getElem hk
      refine wB_step hx hn hm hk' ?_ hi
      by_cases hc : k < ns
      · exact .inl ⟨hc, h1 k _ hk' hc⟩
      · have e : k = ns := by omega
        subst e
        exact .inr ⟨rfl, by omega, h2 _ hk'⟩)
    (fun ys hi => by
      obtain ⟨k0, hk0⟩ : ∃ k0, xs.length = k0 + 1 := ⟨xs.length - 1, by omega⟩
      rw [hk0]
      exact base_end (by intro h; cases h) (wB_last k0 rfl)) xs.length 0 ys0 (by omega) ⟨by rw [hl]; unfold wLen; omega, hg⟩
  rw [hl] at this
  exact this
theorem w_hand {L1 L2 L3 : Hand} (a : Code) (h1 : LOk Tryz.prog L1 a) (h2 : LOk Tryz.prog L2 a) (h3 : LOk Tryz.prog L3 a) : LOk Tryz.prog (wH L1 L2 L3) a := orL_ok (slimL_ok h3) (orL_ok (slimL_ok h2) (slimL_ok h1))
theorem w_up {L3 : Hand} {fx : List El} {ys : List El} (hn : xs.length < 1000) (hm : fx.length < 1000) (hf0 : 0 < fx.length) (hs : ∀ x ∈ xs, wSrc Good x ∨ wStr Good x)
    (hB : BaseRounds Tryz.prog 7 81 ⟨10, (9, .cells (cellsOf fx) 4) :: wD ++ wO (cellsOf xs) (cellsOf fx) sz⟩ wB (wF xs.length c 9 fx.length 0) ⟨10, (9, .cells (cellsOf fx) 4) :: (wD ++ wO (cellsOf xs) (cellsOf fx) sz)⟩ (.exit 2)
      (wF xs.length c 10 ys.length xs.length) ⟨11, (10, .cells (cellsOf ys) 4) :: (wD ++ wO (cellsOf xs) (cellsOf fx) sz)⟩) (R : Type) (K : Ex → Env → Objs → Option R) (L : Hand)
    (hL : L = wH (told Tryz.prog (.exit 0) (wE xs.length c fx.length xs.length) ⟨9, wD ++ wO (cellsOf xs) (cellsOf fx) sz⟩) (told Tryz.prog (.exit 2) (wF xs.length c 10 ys.length xs.length) ⟨11, (10, .cells (cellsOf ys) 4) :: (wD ++ wO (cellsOf xs) (cellsOf fx) sz)⟩) L3) :
    evTop (wReal wLa 2) 60 L 7 81 (codeOf 125) (enumE 0 [mirW, .slice (some ⟨4, 0, none⟩) fx.length fx.length, .slice (some ⟨0, 0, none⟩) xs.length c, .map (some 6), .func (.func 127) #[mirW] #[]]) ⟨7, wO (cellsOf xs) (cellsOf fx) sz⟩ (takeC [10, 11] [8, 10] K) =
    evTop (wReal wLa 2) 60 L 7 81 (seqN 4 (codeOf 125)) (wF xs.length c 10 ys.length xs.length) ⟨11, (10, .cells (cellsOf ys) 4) :: (wD ++ wO (cellsOf xs) (cellsOf fx) sz)⟩ (takeC [10, 11] [8, 10] K) := by
  have hA := wA_rounds (fs := (cellsOf fx)) (sz := sz) (c := c) (m := fx.length) (Good := Good) (elsAt_cells xs) hn hs
  have hA' := @base_loop _ _ _ _ _ _ _ _ _ hA
  have hB' := @base_loop _ _ _ _ _ _ _ _ _ hB
  subst hL
  unfold wReal
  refine (w_top1 fiReal R rSt (rAp Tryz.prog) (aboveB conjK subK mulK) mulK subK addK divK conjK negK (eiT checkK) sclK (cellsOf xs) (cellsOf fx) sz xs.length c fx.length K (gKd 2 (rKd 2)) _ _ L3).trans ?_
  refine (told_eq @hA' _ _).trans ?_
  rw [leave_then]
  refine (w_top2 fiReal R rSt (rAp Tryz.prog) (aboveB conjK subK mulK) mulK subK addK divK conjK negK (eiT checkK) sclK (cellsOf xs) (cellsOf fx) sz xs.length c fx.length xs.length K (gKd 2 (rKd 2)) _ _ L3).trans ?_
  rw [ap_first hf0 hm]
  refine (told_eq @hB' _ _).trans ?_
  rw [leave_then]
/-- TOO MANY -/
theorem w_many {fx : List El} {ns : Nat} (hn : xs.length < 1000) (hm : fx.length < 1000) (hf0 : 0 < fx.length) (h0 : 0 < ns) (hns : ns ≤ xs.length) (hns1 : xs.length ≤ ns + 1)
    (h1 : ∀ k x, xs[k]? = some x → k < ns → wSrc (fun _ => True) x) (h2 : ∀ x, xs[ns]? = some x → wStr (fun _ => True) x) (hlen : 256 < wLen fx.length ns xs.length) :
    FlatCall Tryz.prog 125 [mirW, .slice (some ⟨4, 0, none⟩) fx.length fx.length, .slice (some ⟨0, 0, none⟩) xs.length c, .map (some 6), .func (.func 127) #[mirW] #[]] ⟨7, wO (cellsOf xs) (cellsOf fx) sz⟩ (.tuple ⟨[.agg ⟨[.slice none 0 0]⟩, .int .i64 4]⟩) := by
  obtain ⟨ys, ⟨hl, _⟩, hB⟩ := wB_rounds (cs := cellsOf xs) (fs := (cellsOf fx)) (sz := sz) (c := c) (Good := fun _ => True) (ys0 := fx) (elsAt_cells xs) hn hm h0 hns hns1 h1 h2 rfl (fun _ _ => trivial)
  have hs : ∀ x ∈ xs, wSrc (fun _ => True) x ∨ wStr (fun _ => True) x := fun x hx => by
    obtain ⟨i, hi, rfl⟩ := List.mem_iff_getElem.1 hx
    by_cases hc : i < ns
    · exact .inl (h1 i _ (List.getElem?_eq_getElem hi) hc)
    · have : i = ns := by omega
      subst this
      exact .inr (h2 _ (List.getElem?_eq_getElem hi))
  have hup := w_up (L3 := noL) hn hm hf0 hs hB (Ex × Env × Objs) (fun ex e O => some (ex, e, O)) _ rfl
  have hend := w_top3 fiReal (Ex × Env × Objs) rSt (rAp Tryz.prog) (aboveB conjK subK mulK) mulK subK addK divK conjK negK (eiT checkK) sclK (cellsOf xs) (cellsOf fx) (cellsOf ys) sz xs.length c ys.length xs.length (fun ex e O => some (ex, e, O)) (gKd 2 (rKd 2)) (told Tryz.prog (.exit 0) (wE xs.length c fx.length xs.length) ⟨9, wD ++ wO (cellsOf xs) (cellsOf fx) sz⟩) (told Tryz.prog (.exit 2) (wF xs.length c 10 ys.length xs.length) ⟨11, (10, .cells (cellsOf ys) 4) :: (wD ++ wO (cellsOf xs) (cellsOf fx) sz)⟩) noL
  rw [decide_eq_true (show (ys.length : Int) > 256 by omega), cond_true] at hend
  exact fun_flat (C := wReal wLa 2) (wReal_ok _ _) zm_ok Tryz.func125 m125_body (fun a _ => w_hand a (told_ok _ _ _ _ a) (told_ok _ _ _ _ a) noL_ok) (Nat.le_of_ble_eq_true rfl) (hup.trans hend) (.inr rfl) (vs := [.agg ⟨[.slice none 0 0]⟩, .int .i64 4]) rfl rfl
end
end Go.Vm
namespace Go.Vm
open Go.Proofs
set_option linter.unusedVariables false
set_option linter.unusedSimpArgs false
set_option maxRecDepth 1000000

/-! ### All of them may be -/
def wG (j : Nat) (k : Int) : Env := [(68, .int .i64 k), (67, .int .i64 j), (66, .slice (some ⟨10, 0, none⟩) j j), (14, .slice (some ⟨10, 0, none⟩) j j), (10, .pointer (some ⟨8, 0, none⟩)), (11, .int .i64 0)]
section
variable (fi : Fi) (R : Type) (ge : GS) (st : St) (ap : Ap) (ab : KAb) (mul sub add div : KCCC) (cj ng : KCC) (chk : KE1) (sc : KCFC) (cs fs os : List Value) (sz n c m j k : Nat) (K : Ex → Env → Objs → Option R)
theorem wC_two : evTop (wCx wLc fi (gKd 2 ge) st ap ab mul sub add div cj ng chk sc) 60 noL 7 81 wC (wG j k) ⟨11, (10, .cells os 4) :: (wD ++ wO cs fs sz)⟩ (takeC [68, 67, 66, 14, 10, 11] [10, 7, 8] K) =
    bif decide ((k : Int) < j) then
      bif decide (0 ≤ (k : Int)) && decide ((k : Int) < j) && true then
        ge R os (0 + k * 4) fun a1 a2 s1 s2 => chk R 2 a1 a2 s1 s2 0 <| fi R (IntKind.i64.wrap (k + 1)) fun i => K .normal (wG j i) ((10, .cells os 4) :: wD)
      else none
    else K (.exit 4) (wG j k) ((10, .cells os 4) :: wD) := by kernel_rfl
theorem w_top4 (L : Hand) : evTop (wCx wLa fi (gKd 2 ge) st ap ab mul sub add div cj ng chk sc) 60 L 7 81 (seqN 6 (codeOf 125)) (wG j k) ⟨11, (10, .cells os 4) :: (wD ++ wO cs fs sz)⟩ (takeC [10, 11] [8, 10] K) =
    K .ret [(10, .pointer (some ⟨8, 0, none⟩)), (11, .int .i64 0)] [(8, .cells [.slice (some ⟨10, 0, none⟩) j j] 0), (10, .cells os 4)] := by kernel_rfl
end
structure CkOk (y : El) : Prop where
  kind : y.kind = 2
  p : y.p = 0
  ok : ∀ (R : Type) (k : Option R), eiT checkK R 2 y.a1 y.a2 y.s1 y.s2 0 k = k
section
variable {cs fs : List Value} {sz n c m : Nat} {xs ys : List El} {Good : El → Prop}
theorem wC_step (hn : ys.length < 1000) {k : Nat} {y : El} (hk : ys[k]? = some y) (h : CkOk y) :
    BaseOk Tryz.prog 7 81 ⟨11, ((10, .cells (cellsOf ys) 4) :: wD) ++ wO cs fs sz⟩ (wG ys.length k) ⟨11, ((10, .cells (cellsOf ys) 4) :: wD) ++ wO cs fs sz⟩ .normal (wG ys.length (k + 1 : Nat)) ⟨11, ((10, .cells (cellsOf ys) 4) :: wD) ++ wO cs fs sz⟩ (fun Q a w => wC.wp Tryz.prog Q a w) := by
  have hkn := (List.getElem?_eq_some_iff.1 hk).1
  exact round_told (C := wReal wLc 2) (H0 := ⟨11, ((10, .cells (cellsOf ys) 4) :: wD) ++ wO cs fs sz⟩) (e := wG ys.length k) (H := ⟨11, ((10, .cells (cellsOf ys) 4) :: wD) ++ wO cs fs sz⟩) (n := 60) (ts := [68, 67, 66, 14, 10, 11]) (bo := [10, 7, 8]) (bs := []) (A := (10, .cells (cellsOf ys) 4) :: wD) (B := wO cs fs sz) (D := (10, .cells (cellsOf ys) 4) :: wD) (wReal_ok _ _) zm_ok wC_loops
    (by unfold wReal
        refine (wC_two fiReal _ _ _ _ _ _ _ _ _ _ _ _ _ cs fs _ sz _ k _).trans ?_
        rw [decide_eq_true (show (k : Int) < ys.length by omega), cond_true, idx_ok, cond_true, rKd_at (elsAt_cells ys) hk h.kind h.p, h.ok, fiReal_fair, wrap_up (by omega)]) rfl
    (renOs_row rfl (row_cells ys).2.1 rfl) rfl rfl rfl rfl rfl
theorem wC_last : BaseOk Tryz.prog 7 81 ⟨11, ((10, .cells (cellsOf ys) 4) :: wD) ++ wO cs fs sz⟩ (wG n n) ⟨11, ((10, .cells (cellsOf ys) 4) :: wD) ++ wO cs fs sz⟩ (.exit 4) (wG n n) ⟨11, ((10, .cells (cellsOf ys) 4) :: wD) ++ wO cs fs sz⟩ (fun Q a w => wC.wp Tryz.prog Q a w) :=
  round_told (C := wReal wLc 2) (H0 := ⟨11, ((10, .cells (cellsOf ys) 4) :: wD) ++ wO cs fs sz⟩) (e := wG n n) (H := ⟨11, ((10, .cells (cellsOf ys) 4) :: wD) ++ wO cs fs sz⟩) (n := 60) (ts := [68, 67, 66, 14, 10, 11]) (bo := [10, 7, 8]) (bs := []) (A := (10, .cells (cellsOf ys) 4) :: wD) (B := wO cs fs sz) (D := (10, .cells (cellsOf ys) 4) :: wD) (wReal_ok _ _) zm_ok wC_loops
    (by unfold wReal
        refine (wC_two fiReal _ (rKd 2) _ _ _ _ _ _ _ _ _ _ _ cs fs _ sz _ n _).trans ?_
        rw [decide_eq_false (by omega)]; rfl) rfl
    (renOs_row rfl (row_cells ys).2.1 rfl) rfl rfl rfl rfl rfl
theorem wC_rounds (hn : ys.length < 1000) (h : ∀ y ∈ ys, CkOk y) :
    BaseRounds Tryz.prog 7 81 ⟨11, ((10, .cells (cellsOf ys) 4) :: wD) ++ wO cs fs sz⟩ wC (wG ys.length 0) ⟨11, ((10, .cells (cellsOf ys) 4) :: wD) ++ wO cs fs sz⟩ (.exit 4) (wG ys.length ys.length) ⟨11, ((10, .cells (cellsOf ys) 4) :: wD) ++ wO cs fs sz⟩ :=
  base_count (E := fun k : Nat => wG ys.length k) (H := fun _ => ⟨11, ((10, .cells (cellsOf ys) 4) :: wD) ++ wO cs fs sz⟩) ys.length 0
    (fun i _ hi => by
      have hi' : i < ys.length := by omega
      exact wC_step hn (List.getElem?_eq_getElem hi') (h _ (List.getElem_mem hi')))
    (base_end (by intro h; cases h) (by simp only [Nat.zero_add]; exact wC_last))
/-- SO MANY AS MAY BE -/
theorem w_fine {fx : List El} (hn : xs.length < 1000) (hm : fx.length < 1000) (hf0 : 0 < fx.length) (hx0 : 0 < xs.length) (h1 : ∀ x ∈ xs, wSrc CkOk x) (hg : ∀ y ∈ fx, CkOk y) (hlen : fx.length + xs.length ≤ 256) :
    ∃ ys : List El, ys.length = fx.length + xs.length ∧ ∃ H', (10, .cells (cellsOf ys) 4) ∈ H'.objs ∧
      ∀ ρ w args', Inv ρ ⟨7, wO (cellsOf xs) (cellsOf fx) sz⟩ w → VRels ρ [mirW, .slice (some ⟨4, 0, none⟩) fx.length fx.length, .slice (some ⟨0, 0, none⟩) xs.length c, .map (some 6), .func (.func 127) #[mirW] #[]] args' →
        Calls Tryz.prog 125 ⟨args'⟩ w fun e w' => ∃ ρ' v', e = .returned v' ∧ VRel ρ' (.tuple ⟨[.agg ⟨[.slice (some ⟨10, 0, none⟩) (fx.length + xs.length) (fx.length + xs.length)]⟩, .int .i64 0]⟩) v' ∧ Next 7 ρ ⟨7, wO (cellsOf xs) (cellsOf fx) sz⟩ w ρ' H' w' := by
  obtain ⟨ys, ⟨hl, hys⟩, hB⟩ := wB_rounds (cs := cellsOf xs) (fs := cellsOf fx) (sz := sz) (c := c) (Good := CkOk) (ns := xs.length) (ys0 := fx) (elsAt_cells xs) hn hm hx0 (Nat.le_refl _) (by omega) (fun k x hk _ => h1 x (List.mem_of_getElem? hk)) (fun x hx => by simp at hx) rfl hg
  have hl' : ys.length = fx.length + xs.length := by rw [hl]; unfold wLen; omega
  have hup := w_up (L3 := told Tryz.prog (.exit 4) (wG ys.length ys.length) ⟨11, ((10, .cells (cellsOf ys) 4) :: wD) ++ wO (cellsOf xs) (cellsOf fx) sz⟩) hn hm hf0 (fun x hx => .inl (h1 x hx)) hB (Ex × Env × Objs) (fun ex e O => some (ex, e, O)) _ rfl
  have hend := w_top3 fiReal (Ex × Env × Objs) rSt (rAp Tryz.prog) (aboveB conjK subK mulK) mulK subK addK divK conjK negK (eiT checkK) sclK (cellsOf xs) (cellsOf fx) (cellsOf ys) sz xs.length c ys.length xs.length (fun ex e O => some (ex, e, O)) (gKd 2 (rKd 2)) (told Tryz.prog (.exit 0) (wE xs.length c fx.length xs.length) ⟨9, wD ++ wO (cellsOf xs) (cellsOf fx) sz⟩) (told Tryz.prog (.exit 2) (wF xs.length c 10 ys.length xs.length) ⟨11, (10, .cells (cellsOf ys) 4) :: (wD ++ wO (cellsOf xs) (cellsOf fx) sz)⟩)
    (told Tryz.prog (.exit 4) (wG ys.length ys.length) ⟨11, ((10, .cells (cellsOf ys) 4) :: wD) ++ wO (cellsOf xs) (cellsOf fx) sz⟩)
  rw [decide_eq_false (by omega), cond_false] at hend
  have hC := @base_loop _ _ _ _ _ _ _ _ _ (wC_rounds (cs := cellsOf xs) (fs := cellsOf fx) (sz := sz) (by omega) hys)
  have h2 := hend.trans (told_eq @hC _ _)
  rw [leave_then] at h2
  have h3 := h2.trans (w_top4 fiReal _ (rKd 2) _ _ _ _ _ _ _ _ _ _ _ (cellsOf xs) (cellsOf fx) (cellsOf ys) sz ys.length ys.length _ _)
  obtain ⟨H', hO, hc⟩ := fun_mem (C := wReal wLa 2) (H := ⟨7, wO (cellsOf xs) (cellsOf fx) sz⟩) (wReal_ok _ _) zm_ok Tryz.func125 m125_body (fun a _ => w_hand a (told_ok _ _ _ _ a) (told_ok _ _ _ _ a) (told_ok _ _ _ _ a)) (Nat.le_of_ble_eq_true rfl) (hup.trans h3) (.inr rfl) (vs := [.agg ⟨[.slice (some ⟨10, 0, none⟩) ys.length ys.length]⟩, .int .i64 0]) rfl
  rw [← hl']
  exact ⟨ys, rfl, H', hO _ (by simp), hc⟩
end
end Go.Vm
namespace Go.Vm
open Go.Proofs
set_option linter.unusedVariables false
set_option linter.unusedSimpArgs false
set_option maxRecDepth 1000000

/-! ### Wall: the loop -/
noncomputable def wlA : Code := loopNo (codeOf 43) 0
def wlE (n c : Nat) (s : Value) (k : Int) : Env := [(38, .int .i64 k), (37, .int .i64 n), (36, .slice (some ⟨0, 0, none⟩) n c), (11, s), (3, .pointer (some ⟨1, 0, none⟩)), (9, .complex .f64 4607182418800017408 0), (1, .complex .f64 0 0), (6, .pointer (some ⟨2, 0, none⟩))]
def wlD (n c : Nat) : Objs := [(1, .cells [.slice (some ⟨0, 0, none⟩) n c] 0), (2, .cells [.slice none 0 0] 0)]
def sl4 (j : Nat) : Value := .slice (some ⟨4, 0, none⟩) j j
def la0 (b : Nat) : Bool := Nat.beq b 0
def la4 (b : Nat) : Bool := Nat.beq b 0 || Nat.beq b 4
section
variable (fi : Fi) (R : Type) (ge : GS) (st : St) (ap : Ap) (ab : KAb) (mul sub add div : KCCC) (cj ng : KCC) (chk : KE1) (sc : KCFC) (cs fs os : List Value) (sz n c m j k : Nat) (K : Ex → Env → Objs → Option R)
theorem wl_two0 : evTop (wCx la0 fi (gKd 2 ge) st ap ab mul sub add div cj ng chk sc) 60 noL 1 72 wlA (wlE n c (.slice none 0 0) k) ⟨4, wlD n c ++ [(0, .cells cs sz)]⟩ (takeC [38, 37, 36, 11, 3, 9, 1, 6] [6, 1, 2] K) =
    bif decide ((k : Int) < n) then
      bif decide (0 ≤ (k : Int)) && decide ((k : Int) < n) && true then
        ge R cs (0 + k * 4) fun a1 a2 s1 s2 => fi R (IntKind.i64.wrap (k + 1)) fun i => K .normal (wlE n c (.slice (some ⟨6, 0, none⟩) 1 1) i) ((6, .cells [.int .u8 2, .complex .f64 a1 a2, .complex .f64 s1 s2, .float .f64 0] 4) :: wlD n c)
      else none
    else K (.exit 0) (wlE n c (.slice none 0 0) k) (wlD n c) := by kernel_rfl
theorem wl_two1 : evTop (wCx la4 fi (gKd 2 ge) st ap ab mul sub add div cj ng chk sc) 60 noL 1 72 wlA (wlE n c (sl4 j) k) ⟨5, (4, .cells os 4) :: (wlD n c ++ [(0, .cells cs sz)])⟩ (takeC [38, 37, 36, 11, 3, 9, 1, 6] [7, 1, 2] K) =
    bif decide ((k : Int) < n) then
      bif decide (0 ≤ (k : Int)) && decide ((k : Int) < n) && true then
        ge R cs (0 + k * 4) fun a1 a2 s1 s2 => ap R 55 os j j [.int .u8 2, .complex .f64 a1 a2, .complex .f64 s1 s2, .float .f64 0] 0 1 fun os => fi R (IntKind.i64.wrap (k + 1)) fun i => K .normal (wlE n c (.slice (some ⟨7, 0, none⟩) (j + 1) (j + 1)) i) ((7, .cells os 4) :: wlD n c)
      else none
    else K (.exit 0) (wlE n c (sl4 j) k) (wlD n c) := by kernel_rfl
theorem wl_end : evTop (wCx la4 fi (gKd 2 ge) st ap ab mul sub add div cj ng chk sc) 60 noL 1 72 wlA (wlE n c (sl4 j) k) ⟨5, (4, .cells os 4) :: (wlD n c ++ [(0, .cells cs sz)])⟩ (takeC [38, 37, 36, 11, 3, 9, 1, 6] [4, 1, 2] K) =
    bif decide ((k : Int) < n) then
      bif decide (0 ≤ (k : Int)) && decide ((k : Int) < n) && true then
        ge R cs (0 + k * 4) fun a1 a2 s1 s2 => ap R 55 os j j [.int .u8 2, .complex .f64 a1 a2, .complex .f64 s1 s2, .float .f64 0] 0 1 fun os => fi R (IntKind.i64.wrap (k + 1)) fun i => K .normal (wlE n c (.slice (some ⟨7, 0, none⟩) (j + 1) (j + 1)) i) (wlD n c)
      else none
    else K (.exit 0) (wlE n c (sl4 j) k) ((4, .cells os 4) :: wlD n c) := by kernel_rfl
theorem wl_one : evTop (wCx la4 fi (gKd 1 ge) st ap ab mul sub add div cj ng chk sc) 60 noL 1 72 wlA (wlE n c (sl4 j) k) ⟨5, (4, .cells os 4) :: (wlD n c ++ [(0, .cells cs sz)])⟩ (takeC [38, 37, 36, 11, 3, 9, 1, 6] [7, 1, 2] K) =
    bif decide ((k : Int) < n) then
      bif decide (0 ≤ (k : Int)) && decide ((k : Int) < n) && true then
        ge R cs (0 + k * 4) fun a1 a2 s1 s2 => cj R 4607182418800017408 0 fun u1 u2 => mul R s1 s2 4607182418800017408 0 fun q1 q2 => sc R u1 u2 q1 fun y1 y2 =>
          ap R 55 os j j [.int .u8 1, .complex .f64 a1 a2, .complex .f64 y1 y2, .float .f64 0] 0 1 fun os => fi R (IntKind.i64.wrap (k + 1)) fun i => K .normal (wlE n c (.slice (some ⟨7, 0, none⟩) (j + 1) (j + 1)) i) ((7, .cells os 4) :: wlD n c)
      else none
    else K (.exit 0) (wlE n c (sl4 j) k) (wlD n c) := by kernel_rfl
end
theorem wl_loops : loopsIn wlA = [] := by kernel_rfl
structure wlStr (x : El) : Prop where
  kind : x.kind = 1
  p : x.p = 0
  img : ∃ u1 u2 q1 q2 y1 y2, (∀ (R : Type) (k : Nat → Nat → Option R), conjK R 4607182418800017408 0 k = k u1 u2) ∧ (∀ (R : Type) (k : Nat → Nat → Option R), mulK R x.s1 x.s2 4607182418800017408 0 k = k q1 q2) ∧ ∀ (R : Type) (k : Nat → Nat → Option R), sclK R u1 u2 q1 k = k y1 y2
def wlS (ys : List El) : Value := match ys with | [] => .slice none 0 0 | _ :: _ => sl4 ys.length
def wlH (n c sz : Nat) (cs : List Value) (ys : List El) : AH := match ys with | [] => ⟨4, wlD n c ++ [(0, .cells cs sz)]⟩ | _ :: _ => ⟨5, (4, .cells (cellsOf ys) 4) :: (wlD n c ++ [(0, .cells cs sz)])⟩
section
variable {cs : List Value} {sz n c : Nat} {xs : List El} {Good : El → Prop}
theorem wl_step (hx : ElsAt cs 0 xs) (hn : xs.length < 1000) {k : Nat} {x : El} (hk : xs[k]? = some x) (h : (x.kind = 2 ∧ x.p = 0 ∧ Good x) ∨ (0 < k ∧ wlStr x ∧ ∀ y, Good y)) {ys : List El} (hl : ys.length = k) (hg : ∀ y ∈ ys, Good y) :
    ∃ ys', (ys'.length = k + 1 ∧ ∀ y ∈ ys', Good y) ∧ BaseOk Tryz.prog 1 72 ⟨4, wlD xs.length c ++ [(0, .cells cs sz)]⟩ (wlE xs.length c (wlS ys) k) (wlH xs.length c sz cs ys) .normal (wlE xs.length c (wlS ys') (k + 1 : Nat)) (wlH xs.length c sz cs ys') (fun Q a w => wlA.wp Tryz.prog Q a w) := by
  have hkn := (List.getElem?_eq_some_iff.1 hk).1
  cases ys with
  | nil =>
    simp only [List.length_nil] at hl
    subst hl
    rcases h with ⟨h1, h2, h3⟩ | ⟨h0, _⟩
    · refine ⟨[x], ⟨rfl, fun y hy => by simp only [List.mem_singleton] at hy; subst hy; exact h3⟩, ?_⟩
      have hc : cellsOf [x] = [.int .u8 2, .complex .f64 x.a1 x.a2, .complex .f64 x.s1 x.s2, .float .f64 0] := by
        show x.cs ++ [] = _
        unfold El.cs
        rw [h1, h2]; rfl
      show BaseOk Tryz.prog 1 72 _ _ _ _ (wlE xs.length c (sl4 1) (0 + 1 : Nat)) ⟨5, (4, .cells (cellsOf [x]) 4) :: (wlD xs.length c ++ [(0, .cells cs sz)])⟩ _
      rw [hc]
      exact round_told (C := wReal la0 2) (H0 := ⟨4, wlD xs.length c ++ [(0, .cells cs sz)]⟩) (e := wlE xs.length c (.slice none 0 0) (0 : Nat)) (H := ⟨4, wlD xs.length c ++ [(0, .cells cs sz)]⟩) (n := 60) (ts := [38, 37, 36, 11, 3, 9, 1, 6]) (bo := [6, 1, 2]) (bs := [6])
        (A := (4, .cells [.int .u8 2, .complex .f64 x.a1 x.a2, .complex .f64 x.s1 x.s2, .float .f64 0] 4) :: wlD xs.length c) (B := [(0, .cells cs sz)]) (D := wlD xs.length c) (wReal_ok _ _) zm_ok wl_loops
        (by unfold wReal
            refine (wl_two0 fiReal _ _ _ _ _ _ _ _ _ _ _ _ _ cs sz _ c 0 _).trans ?_
            rw [decide_eq_true (show ((0 : Nat) : Int) < xs.length by omega), cond_true, idx_ok, cond_true, rKd_at hx hk h1 h2, fiReal_fair, wrap_up (by omega)]) rfl
        rfl rfl rfl rfl rfl rfl
    · omega
  | cons y0 ys =>
    have hl1000 : (y0 :: ys).length < 1000 := by omega
    rcases h with ⟨h1, h2, h3⟩ | ⟨h0, h1, h2⟩
    · refine ⟨(y0 :: ys) ++ [x], ⟨by rw [List.length_append, hl]; rfl, fun y hy => ?_⟩, ?_⟩
      · rcases List.mem_append.1 hy with hy | hy
        · exact hg y hy
        · simp only [List.mem_singleton] at hy; subst hy; exact h3
      have hc : cellsOf ((y0 :: ys) ++ [x]) = cellsOf (y0 :: ys) ++ [.int .u8 2, .complex .f64 x.a1 x.a2, .complex .f64 x.s1 x.s2, .float .f64 0] := by
        rw [cells_app]
        show _ ++ (x.cs ++ []) = _
        unfold El.cs
        rw [h1, h2]; rfl
      show BaseOk Tryz.prog 1 72 _ _ _ _ (wlE xs.length c (sl4 ((y0 :: ys) ++ [x]).length) (k + 1 : Nat)) ⟨5, (4, .cells (cellsOf ((y0 :: ys) ++ [x])) 4) :: (wlD xs.length c ++ [(0, .cells cs sz)])⟩ _
      rw [hc, List.length_append]
      have hf : inns 0 (cellsOf (y0 :: ys) ++ [.int .u8 2, .complex .f64 x.a1 x.a2, .complex .f64 x.s1 x.s2, .float .f64 0]) = true := inns_app (row_cells _).2.1 rfl
      exact round_told (C := wReal la4 2) (H0 := ⟨4, wlD xs.length c ++ [(0, .cells cs sz)]⟩) (e := wlE xs.length c (sl4 (y0 :: ys).length) k) (H := ⟨5, (4, .cells (cellsOf (y0 :: ys)) 4) :: (wlD xs.length c ++ [(0, .cells cs sz)])⟩) (n := 60) (ts := [38, 37, 36, 11, 3, 9, 1, 6]) (bo := [7, 1, 2]) (bs := [7])
        (A := (4, .cells (cellsOf (y0 :: ys) ++ [.int .u8 2, .complex .f64 x.a1 x.a2, .complex .f64 x.s1 x.s2, .float .f64 0]) 4) :: wlD xs.length c) (B := [(0, .cells cs sz)]) (D := wlD xs.length c) (wReal_ok _ _) zm_ok wl_loops
        (by unfold wReal
            refine (wl_two1 fiReal _ _ _ _ _ _ _ _ _ _ _ _ _ cs _ sz _ c _ k _).trans ?_
            rw [decide_eq_true (show (k : Int) < xs.length by omega), cond_true, idx_ok, cond_true, rKd_at hx hk h1 h2, ap55_ok (row_cells (y0 :: ys)).1 rfl rfl (by omega) (by omega), fiReal_fair, wrap_up (by omega)]
            try rfl) rfl
        (renOs_row rfl hf rfl) rfl rfl rfl rfl rfl
    · obtain ⟨u1, u2, q1, q2, y1, y2, e1, e2, e3⟩ := h1.img
      refine ⟨(y0 :: ys) ++ [(⟨1, x.a1, x.a2, y1, y2, 0⟩ : El)], ⟨by rw [List.length_append, hl]; rfl, fun y hy => h2 y⟩, ?_⟩
      have hc : cellsOf ((y0 :: ys) ++ [(⟨1, x.a1, x.a2, y1, y2, 0⟩ : El)]) = cellsOf (y0 :: ys) ++ [.int .u8 1, .complex .f64 x.a1 x.a2, .complex .f64 y1 y2, .float .f64 0] := by
        rw [cells_app]; rfl
      show BaseOk Tryz.prog 1 72 _ _ _ _ (wlE xs.length c (sl4 ((y0 :: ys) ++ [(⟨1, x.a1, x.a2, y1, y2, 0⟩ : El)]).length) (k + 1 : Nat)) ⟨5, (4, .cells (cellsOf ((y0 :: ys) ++ [(⟨1, x.a1, x.a2, y1, y2, 0⟩ : El)])) 4) :: (wlD xs.length c ++ [(0, .cells cs sz)])⟩ _
      rw [hc, List.length_append]
      have hf : inns 0 (cellsOf (y0 :: ys) ++ [.int .u8 1, .complex .f64 x.a1 x.a2, .complex .f64 y1 y2, .float .f64 0]) = true := inns_app (row_cells _).2.1 rfl
      exact round_told (C := wReal la4 1) (H0 := ⟨4, wlD xs.length c ++ [(0, .cells cs sz)]⟩) (e := wlE xs.length c (sl4 (y0 :: ys).length) k) (H := ⟨5, (4, .cells (cellsOf (y0 :: ys)) 4) :: (wlD xs.length c ++ [(0, .cells cs sz)])⟩) (n := 60) (ts := [38, 37, 36, 11, 3, 9, 1, 6]) (bo := [7, 1, 2]) (bs := [7])
        (A := (4, .cells (cellsOf (y0 :: ys) ++ [.int .u8 1, .complex .f64 x.a1 x.a2, .complex .f64 y1 y2, .float .f64 0]) 4) :: wlD xs.length c) (B := [(0, .cells cs sz)]) (D := wlD xs.length c) (wReal_ok _ _) zm_ok wl_loops
        (by unfold wReal
            refine (wl_one fiReal _ _ _ _ _ _ _ _ _ _ _ _ _ cs _ sz _ c _ k _).trans ?_
            rw [decide_eq_true (show (k : Int) < xs.length by omega), cond_true, idx_ok, cond_true, rKd_at hx hk h1.kind h1.p, e1, e2, e3, ap55_ok (row_cells (y0 :: ys)).1 rfl rfl (by omega) (by omega), fiReal_fair, wrap_up (by omega)]
            try rfl) rfl
        (renOs_row rfl hf rfl) rfl rfl rfl rfl rfl
theorem wl_last {ys : List El} (hy : 0 < ys.length) :
    BaseOk Tryz.prog 1 72 ⟨4, wlD n c ++ [(0, .cells cs sz)]⟩ (wlE n c (wlS ys) n) (wlH n c sz cs ys) (.exit 0) (wlE n c (sl4 ys.length) n) ⟨5, (4, .cells (cellsOf ys) 4) :: (wlD n c ++ [(0, .cells cs sz)])⟩ (fun Q a w => wlA.wp Tryz.prog Q a w) := by
  cases ys with
  | nil => simp at hy
  | cons y0 ys =>
    exact round_told (C := wReal la4 2) (H0 := ⟨4, wlD n c ++ [(0, .cells cs sz)]⟩) (e := wlE n c (sl4 (y0 :: ys).length) n) (H := ⟨5, (4, .cells (cellsOf (y0 :: ys)) 4) :: (wlD n c ++ [(0, .cells cs sz)])⟩) (n := 60) (ts := [38, 37, 36, 11, 3, 9, 1, 6]) (bo := [4, 1, 2]) (bs := [4])
        (A := (4, .cells (cellsOf (y0 :: ys)) 4) :: wlD n c) (B := [(0, .cells cs sz)]) (D := wlD n c) (wReal_ok _ _) zm_ok wl_loops
        (by unfold wReal
            refine (wl_end fiReal _ (rKd 2) _ _ _ _ _ _ _ _ _ _ _ cs _ sz _ c _ n _).trans ?_
            rw [decide_eq_false (by omega)]; rfl) rfl
        (renOs_row rfl (row_cells _).2.1 rfl) rfl rfl rfl rfl rfl
theorem wl_rounds (hx : ElsAt cs 0 xs) (hn : xs.length < 1000) (h0 : 0 < xs.length) (h : ∀ k x, xs[k]? = some x → (x.kind = 2 ∧ x.p = 0 ∧ Good x) ∨ (0 < k ∧ wlStr x ∧ ∀ y, Good y)) :
    ∃ ys, (ys.length = xs.length ∧ ∀ y ∈ ys, Good y) ∧ BaseRounds Tryz.prog 1 72 ⟨4, wlD xs.length c ++ [(0, .cells cs sz)]⟩ wlA (wlE xs.length c (.slice none 0 0) 0) ⟨4, wlD xs.length c ++ [(0, .cells cs sz)]⟩ (.exit 0) (wlE xs.length c (sl4 ys.length) xs.length) ⟨5, (4, .cells (cellsOf ys) 4) :: (wlD xs.length c ++ [(0, .cells cs sz)])⟩ :=
  base_while (P := Tryz.prog) (lo := 1) (sz := 72) (a := wlA) (H0 := ⟨4, wlD xs.length c ++ [(0, .cells cs sz)]⟩) (E := fun k ys => wlE xs.length c (wlS ys) k) (H := fun k ys => wlH xs.length c sz cs ys)
    (ex := .exit 0) (e' := fun ys => wlE xs.length c (sl4 ys.length) xs.length) (H' := fun ys => ⟨5, (4, .cells (cellsOf ys) 4) :: (wlD xs.length c ++ [(0, .cells cs sz)])⟩) xs.length (fun k ys => ys.length = k ∧ ∀ y ∈ ys, Good y)
    (fun k ys hk hi => wl_step hx hn (List.getElem?_eq_getElem hk) (h k _ (List.getElem?_eq_getElem hk)) hi.1 hi.2)
    (fun ys hi => base_end (by intro h; cases h) (wl_last (by omega))) xs.length 0 [] (by omega) ⟨rfl, fun y hy => by simp at hy⟩
end
end Go.Vm
