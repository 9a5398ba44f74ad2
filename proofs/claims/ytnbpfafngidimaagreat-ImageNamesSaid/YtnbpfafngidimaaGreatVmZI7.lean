/- A part of the evaluator and of what is told of floats; no conditions. -/
import Derived.Test.YtnbpfafngidimaaGreatVmZK
import Derived.Test.YtnbpfafngidimaaGreatVmZI6
namespace Go.Vm
open Go.Proofs
set_option linter.unusedVariables false
set_option linter.unusedSimpArgs false
set_option maxRecDepth 1000000
noncomputable def cA : Code := loopNo (codeOf 125) 0
noncomputable def cB : Code := loopNo (codeOf 125) 1
noncomputable def cC : Code := loopNo (codeOf 125) 2
def mirC : Value := .agg ⟨[.complex .f64 0 0, .complex .f64 0 0, .complex .f64 0 0, .float .f64 4607182418800017408]⟩
def circM : AObj := .map .u8 [(1, .func (.func 209) #[] #[]), (2, .func (.func 210) #[] #[]), (3, .func (.func 211) #[] #[])]
def cO (cs fs : List Value) (sz : Nat) : Objs := [(5, circM), (0, .cells cs sz)]
def cD : Objs := [(6, .cells [.complex .f64 0 0, .complex .f64 0 0, .complex .f64 0 0, .float .f64 4607182418800017408] 0), (7, .cells [.slice none 0 0] 0)]
def cLa (b : Nat) : Bool := Nat.beq b 0
def cLb (b : Nat) : Bool := Nat.beq b 0 || Nat.beq b 8
def cLc (b : Nat) : Bool := Nat.beq b 0 || Nat.beq b 9
noncomputable def cCx (lim : Nat → Bool) (fi : Fi) (ld : Ld) (st : St) (ap : Ap) (ab : KAb) (mul sub add div : KCCC) (cj ng : KCC) (chk : KE1) (sc : KCFC) : Cx :=
  cxM fi Tryz.prog (fun _ _ => none) [(130, sAb ab), (22, sCCC mul), (21, sCCC sub), (84, sCCC add), (179, sCCC div), (124, sCC cj), (86, sCC ng), (199, sEI1 chk), (39, sCFC sc)] [] [] [] (mmOf lim [(66, ld)] st ap)
def cE (n c m : Nat) (k : Int) : Env := [(22, .int .i64 k), (21, .int .i64 n), (20, .slice (some ⟨0, 0, none⟩) n c), (1, .slice (some ⟨0, 0, none⟩) n c), (2, .slice (some ⟨0, 0, none⟩) n c), (3, .map (some 5)), (4, .func (.func 130) #[mirC] #[]),
  (5, .pointer (some ⟨6, 0, none⟩)), (10, .pointer (some ⟨7, 0, none⟩)), (11, .int .i64 0)]
def cF (n c b j : Nat) (k : Int) : Env := [(48, .int .i64 k), (47, .int .i64 n), (46, .slice (some ⟨0, 0, none⟩) n c), (14, .slice (some ⟨b, 0, none⟩) j j), (3, .map (some 5)), (5, .pointer (some ⟨6, 0, none⟩)), (10, .pointer (some ⟨7, 0, none⟩)), (11, .int .i64 0)]
abbrev cK := ∀ R : Type, Nat → Nat → Nat → Nat → (Nat → Nat → Nat → Nat → Nat → Nat → Option R) → Option R
def cChain (mul sub add div : KCCC) (cj ng : KCC) : cK := fun R a1 a2 s1 s2 k => cj R s1 s2 fun t1 t2 => bindF (fbF .mul 4607182418800017408 4607182418800017408) fun rr => sub R a1 a2 0 0 fun d1 d2 => cj R d1 d2 fun e1 e2 => div R rr 0 e1 e2 fun q1 q2 => add R 0 0 q1 q2 fun y1 y2 => ng R t1 t2 fun u1 u2 => k y1 y2 t1 t2 u1 u2
section
variable (fi : Fi) (R : Type) (ge : GS) (st : St) (ap : Ap) (ab : KAb) (mul sub add div : KCCC) (cj ng : KCC) (chk : KE1) (sc : KCFC) (cs fs os : List Value) (sz n c m j k : Nat) (K : Ex → Env → Objs → Option R)
theorem cA_two : evTop (cCx cLa fi (gKd 2 ge) st ap ab mul sub add div cj ng chk sc) 60 noL 6 81 cA (cE n c m k) ⟨8, cD ++ cO cs fs sz⟩ (takeC [22, 21, 20, 1, 2, 3, 4, 5, 10, 11] [6, 7] K) =
    bif decide ((k : Int) < n) then
      bif decide (0 ≤ (k : Int)) && decide ((k : Int) < n) && true then
        ge R cs (0 + k * 4) fun a1 a2 s1 s2 => ab R 0 0 0 0 0 0 4607182418800017408 a1 a2 <| fi R (IntKind.i64.wrap (k + 1)) fun i => K .normal (cE n c m i) cD
      else none
    else K (.exit 0) (cE n c m k) cD := by kernel_rfl
theorem cA_one : evTop (cCx cLa fi (gKd 1 ge) st ap ab mul sub add div cj ng chk sc) 60 noL 6 81 cA (cE n c m k) ⟨8, cD ++ cO cs fs sz⟩ (takeC [22, 21, 20, 1, 2, 3, 4, 5, 10, 11] [6, 7] K) =
    bif decide ((k : Int) < n) then
      bif decide (0 ≤ (k : Int)) && decide ((k : Int) < n) && true then
        ge R cs (0 + k * 4) fun a1 a2 s1 s2 => fi R (IntKind.i64.wrap (k + 1)) fun i => K .normal (cE n c m i) cD
      else none
    else K (.exit 0) (cE n c m k) cD := by kernel_rfl
theorem cB_two0 : evTop (cCx cLb fi (gKd 2 ge) st ap ab mul sub add div cj ng chk sc) 60 noL 6 81 cB (cF n c 8 j k) ⟨9, (8, .cells os 4) :: (cD ++ cO cs fs sz)⟩ (takeC [48, 47, 46, 14, 3, 5, 10, 11] [15, 6, 7] K) =
    bif decide ((k : Int) < n) then
      bif decide (0 ≤ (k : Int)) && decide ((k : Int) < n) && true then
        ge R cs (0 + k * 4) fun a1 a2 s1 s2 => cChain mul sub add div cj ng R a1 a2 s1 s2 fun y1 y2 t1 t2 u1 u2 => ap R 55 os j j [.int .u8 2, .complex .f64 y1 y2, .complex .f64 t1 t2, .float .f64 0, .int .u8 2, .complex .f64 0 0, .complex .f64 u1 u2, .float .f64 0] 0 2 fun os => fi R (IntKind.i64.wrap (k + 1)) fun i => K .normal (cF n c 15 (j + 2) i) ((15, .cells os 4) :: cD)
      else none
    else K (.exit 2) (cF n c 8 j k) cD := by kernel_rfl
theorem cB_two1 : evTop (cCx cLc fi (gKd 2 ge) st ap ab mul sub add div cj ng chk sc) 60 noL 6 81 cB (cF n c 9 j k) ⟨10, (9, .cells os 4) :: (cD ++ cO cs fs sz)⟩ (takeC [48, 47, 46, 14, 3, 5, 10, 11] [16, 6, 7] K) =
    bif decide ((k : Int) < n) then
      bif decide (0 ≤ (k : Int)) && decide ((k : Int) < n) && true then
        ge R cs (0 + k * 4) fun a1 a2 s1 s2 => cChain mul sub add div cj ng R a1 a2 s1 s2 fun y1 y2 t1 t2 u1 u2 => ap R 55 os j j [.int .u8 2, .complex .f64 y1 y2, .complex .f64 t1 t2, .float .f64 0, .int .u8 2, .complex .f64 0 0, .complex .f64 u1 u2, .float .f64 0] 0 2 fun os => fi R (IntKind.i64.wrap (k + 1)) fun i => K .normal (cF n c 16 (j + 2) i) ((16, .cells os 4) :: cD)
      else none
    else K (.exit 2) (cF n c 9 j k) cD := by kernel_rfl
theorem cB_end : evTop (cCx cLc fi (gKd 2 ge) st ap ab mul sub add div cj ng chk sc) 60 noL 6 81 cB (cF n c 9 j k) ⟨10, (9, .cells os 4) :: (cD ++ cO cs fs sz)⟩ (takeC [48, 47, 46, 14, 3, 5, 10, 11] [9, 6, 7] K) =
    bif decide ((k : Int) < n) then
      bif decide (0 ≤ (k : Int)) && decide ((k : Int) < n) && true then
        ge R cs (0 + k * 4) fun a1 a2 s1 s2 => cChain mul sub add div cj ng R a1 a2 s1 s2 fun y1 y2 t1 t2 u1 u2 => ap R 55 os j j [.int .u8 2, .complex .f64 y1 y2, .complex .f64 t1 t2, .float .f64 0, .int .u8 2, .complex .f64 0 0, .complex .f64 u1 u2, .float .f64 0] 0 2 fun os => fi R (IntKind.i64.wrap (k + 1)) fun i => K .normal (cF n c 16 (j + 2) i) cD
      else none
    else K (.exit 2) (cF n c 9 j k) ((9, .cells os 4) :: cD) := by kernel_rfl
theorem cB_one : evTop (cCx cLc fi (gKd 1 ge) st ap ab mul sub add div cj ng chk sc) 60 noL 6 81 cB (cF n c 9 j k) ⟨10, (9, .cells os 4) :: (cD ++ cO cs fs sz)⟩ (takeC [48, 47, 46, 14, 3, 5, 10, 11] [14, 6, 7] K) =
    bif decide ((k : Int) < n) then
      bif decide (0 ≤ (k : Int)) && decide ((k : Int) < n) && true then
        ge R cs (0 + k * 4) fun a1 a2 s1 s2 => cj R s1 s2 fun t1 t2 => sc R t1 t2 4607182418800017408 fun y1 y2 => ap R 55 os j j [.int .u8 3, .complex .f64 0 0, .complex .f64 y1 y2, .float .f64 4607182418800017408] 0 1 fun os => fi R (IntKind.i64.wrap (k + 1)) fun i => K .normal (cF n c 14 (j + 1) i) ((14, .cells os 4) :: cD)
      else none
    else K (.exit 2) (cF n c 9 j k) cD := by kernel_rfl
abbrev cH (L1 L2 L3 : Hand) : Hand := orL 68 (slimL [68, 67, 66, 14, 10, 11] [9, 6, 7, 5, 0] L3) (orL 48 (slimL [48, 47, 46, 14, 3, 5, 10, 11] [8, 6, 7, 5, 0] L2) (slimL [22, 21, 20, 1, 2, 3, 4, 5, 10, 11] [6, 7, 5, 0] L1))
variable (ld : Ld) (L1 L2 L3 : Hand)
theorem c_top1 : evTop (cCx cLa fi ld st ap ab mul sub add div cj ng chk sc) 60 (cH L1 L2 L3) 6 81 (codeOf 125) (enumE 0 [mirC, .slice (some ⟨0, 0, none⟩) n c, .slice (some ⟨0, 0, none⟩) n c, .map (some 5), .func (.func 130) #[mirC] #[]]) ⟨6, cO cs fs sz⟩ (takeC [10, 11] [7, 9] K) =
    L1 R 6 81 cA (cE n c m 0) ⟨8, cD ++ cO cs fs sz⟩ (leaveE 0 (thenE (fun e H => evTop (cCx cLa fi ld st ap ab mul sub add div cj ng chk sc) 60 (cH L1 L2 L3) 6 81 (seqN 2 (codeOf 125)) e H (takeC [10, 11] [7, 9] K)) (takeC [10, 11] [7, 9] K))) := by kernel_rfl
theorem c_top2 : evTop (cCx cLa fi ld st ap ab mul sub add div cj ng chk sc) 60 (cH L1 L2 L3) 6 81 (seqN 2 (codeOf 125)) (cE n c m k) ⟨8, cD ++ cO cs fs sz⟩ (takeC [10, 11] [7, 9] K) =
    ap R 55 [] 0 0 cs 0 n fun os => L2 R 6 81 cB (cF n c 8 n 0) ⟨9, (8, .cells os 4) :: (cD ++ cO cs fs sz)⟩ (leaveE 2 (thenE (fun e H => evTop (cCx cLa fi ld st ap ab mul sub add div cj ng chk sc) 60 (cH L1 L2 L3) 6 81 (seqN 4 (codeOf 125)) e H (takeC [10, 11] [7, 9] K)) (takeC [10, 11] [7, 9] K))) := by kernel_rfl
theorem c_top3 : evTop (cCx cLa fi ld st ap ab mul sub add div cj ng chk sc) 60 (cH L1 L2 L3) 6 81 (seqN 4 (codeOf 125)) (cF n c 9 j k) ⟨10, (9, .cells os 4) :: (cD ++ cO cs fs sz)⟩ (takeC [10, 11] [7, 9] K) =
    bif decide ((j : Int) > 256) then K .ret [(10, .pointer (some ⟨7, 0, none⟩)), (11, .int .i64 4)] [(7, .cells [.slice none 0 0] 0), (9, .cells os 4)]
    else L3 R 6 81 cC [(68, .int .i64 0), (67, .int .i64 j), (66, .slice (some ⟨9, 0, none⟩) j j), (14, .slice (some ⟨9, 0, none⟩) j j), (10, .pointer (some ⟨7, 0, none⟩)), (11, .int .i64 0)] ⟨10, (9, .cells os 4) :: (cD ++ cO cs fs sz)⟩
      (leaveE 4 (thenE (fun e H => evTop (cCx cLa fi ld st ap ab mul sub add div cj ng chk sc) 60 (cH L1 L2 L3) 6 81 (seqN 6 (codeOf 125)) e H (takeC [10, 11] [7, 9] K)) (takeC [10, 11] [7, 9] K))) := by kernel_rfl
end
noncomputable def cReal (lim : Nat → Bool) (kind : Int) : Cx := cCx lim fiReal (gKd kind (rKd kind)) rSt (rAp Tryz.prog) (outB subK lengthK) mulK subK addK divK conjK negK (eiT checkK) sclK
theorem cReal_ok (lim : Nat → Bool) (kind : Int) : (cReal lim kind).Ok := cxM_ok no_meth (.cons k130 h130 (.cons k22 h22 (.cons k21 h21 (.cons k84 h84 (.cons k179 h179 (.cons k124i h124i (.cons k86 h86 (.cons k199i h199 (.cons k39 h39 .nil))))))))) no_ext .nil .nil (mmOf_ok (.cons (ldKd_ok kind) .nil))
theorem cA_loops : loopsIn cA = [] := by kernel_rfl
theorem cB_loops : loopsIn cB = [] := by kernel_rfl
theorem cC_loops : loopsIn cC = [] := by kernel_rfl
/-- a source on the right side, of images that are so -/
structure cSrc (Good : El → Prop) (x : El) : Prop where
  kind : x.kind = 2
  p : x.p = 0
  side : ∀ (R : Type) (k : Option R), (outB subK lengthK) R 0 0 0 0 0 0 4607182418800017408 x.a1 x.a2 k = k
  img : ∃ y1 y2 t1 t2 u1 u2, (Good ⟨2, y1, y2, t1, t2, 0⟩ ∧ Good ⟨2, 0, 0, u1, u2, 0⟩) ∧ ∀ (R : Type) (k : Nat → Nat → Nat → Nat → Nat → Nat → Option R), cChain mulK subK addK divK conjK negK R x.a1 x.a2 x.s1 x.s2 k = k y1 y2 t1 t2 u1 u2
structure cStr (Good : El → Prop) (x : El) : Prop where
  kind : x.kind = 1
  p : x.p = 0
  img : ∃ t1 t2 y1 y2, Good ⟨3, 0, 0, y1, y2, 4607182418800017408⟩ ∧ (∀ (R : Type) (k : Nat → Nat → Option R), conjK R x.s1 x.s2 k = k t1 t2) ∧ ∀ (R : Type) (k : Nat → Nat → Option R), sclK R t1 t2 4607182418800017408 k = k y1 y2
section
variable {cs fs : List Value} {sz n c m : Nat} {xs : List El} {Good : El → Prop}
theorem cA_step (hx : ElsAt cs 0 xs) (hn : xs.length < 1000) {k : Nat} {x : El} (hk : xs[k]? = some x) (h : cSrc Good x ∨ cStr Good x) :
    BaseOk Tryz.prog 6 81 ⟨8, cD ++ cO cs fs sz⟩ (cE xs.length c m k) ⟨8, cD ++ cO cs fs sz⟩ .normal (cE xs.length c m (k + 1 : Nat)) ⟨8, cD ++ cO cs fs sz⟩ (fun Q a w => cA.wp Tryz.prog Q a w) := by
  have hkn := (List.getElem?_eq_some_iff.1 hk).1
  rcases h with h | h
  · exact round_told (C := cReal cLa 2) (H0 := ⟨8, cD ++ cO cs fs sz⟩) (e := cE xs.length c m k) (H := ⟨8, cD ++ cO cs fs sz⟩) (n := 60) (ts := [22, 21, 20, 1, 2, 3, 4, 5, 10, 11]) (bo := [6, 7]) (bs := []) (A := cD) (B := cO cs fs sz) (D := cD) (cReal_ok _ _) zm_ok cA_loops
      (by unfold cReal
          rw [cA_two, decide_eq_true (show (k : Int) < xs.length by omega), cond_true, idx_ok, cond_true, rKd_at hx hk h.kind h.p, h.side, fiReal_fair, wrap_up (by omega)]) rfl rfl rfl rfl rfl rfl rfl
  · exact round_told (C := cReal cLa 1) (H0 := ⟨8, cD ++ cO cs fs sz⟩) (e := cE xs.length c m k) (H := ⟨8, cD ++ cO cs fs sz⟩) (n := 60) (ts := [22, 21, 20, 1, 2, 3, 4, 5, 10, 11]) (bo := [6, 7]) (bs := []) (A := cD) (B := cO cs fs sz) (D := cD) (cReal_ok _ _) zm_ok cA_loops
      (by unfold cReal
          rw [cA_one, decide_eq_true (show (k : Int) < xs.length by omega), cond_true, idx_ok, cond_true, rKd_at hx hk h.kind h.p, fiReal_fair, wrap_up (by omega)]) rfl rfl rfl rfl rfl rfl rfl
theorem cA_last :
    BaseOk Tryz.prog 6 81 ⟨8, cD ++ cO cs fs sz⟩ (cE n c m n) ⟨8, cD ++ cO cs fs sz⟩ (.exit 0) (cE n c m n) ⟨8, cD ++ cO cs fs sz⟩ (fun Q a w => cA.wp Tryz.prog Q a w) :=
  round_told (C := cReal cLa 2) (H0 := ⟨8, cD ++ cO cs fs sz⟩) (e := cE n c m n) (H := ⟨8, cD ++ cO cs fs sz⟩) (n := 60) (ts := [22, 21, 20, 1, 2, 3, 4, 5, 10, 11]) (bo := [6, 7]) (bs := []) (A := cD) (B := cO cs fs sz) (D := cD) (cReal_ok _ _) zm_ok cA_loops
    (by unfold cReal
        rw [cA_two, decide_eq_false (by omega)]; rfl) rfl rfl rfl rfl rfl rfl rfl
theorem cA_rounds (hx : ElsAt cs 0 xs) (hn : xs.length < 1000) (h : ∀ x ∈ xs, cSrc Good x ∨ cStr Good x) :
    BaseRounds Tryz.prog 6 81 ⟨8, cD ++ cO cs fs sz⟩ cA (cE xs.length c m 0) ⟨8, cD ++ cO cs fs sz⟩ (.exit 0) (cE xs.length c m xs.length) ⟨8, cD ++ cO cs fs sz⟩ :=
  base_count (E := fun k : Nat => cE xs.length c m k) (H := fun _ => ⟨8, cD ++ cO cs fs sz⟩) xs.length 0
    (fun i _ hi => by
      have hi' : i < xs.length := by omega
      exact cA_step hx hn (List.getElem?_eq_getElem hi') (h _ (List.getElem_mem hi')))
    (base_end (by intro h; cases h) (by simp only [Nat.zero_add]; exact cA_last))

/-! the images -/
def cBo : Nat → Nat | 0 => 8 | _ + 1 => 9
def cNo : Nat → Nat | 0 => 9 | _ + 1 => 10
def cLen (m ns k : Nat) : Nat := m + 2 * min k ns + 1 * (k - ns)
def cInv (Good : El → Prop) (m ns k : Nat) (ys : List El) : Prop := ys.length = cLen m ns k ∧ ∀ y ∈ ys, Good y
theorem cB_step {ys0 : List El} (hx : ElsAt cs 0 xs) {ns : Nat} (hn : xs.length < 1000) (hm : m < 1000) {k : Nat} {x : El} (hk : xs[k]? = some x) (h : (k < ns ∧ cSrc Good x) ∨ (ns = k ∧ 0 < k ∧ cStr Good x)) {ys : List El} (hi : cInv Good m ns k ys) :
    ∃ ys', cInv Good m ns (k + 1) ys' ∧ BaseOk Tryz.prog 6 81 ⟨9, (8, .cells (cellsOf ys0) 4) :: cD ++ cO cs fs sz⟩ (cF xs.length c (cBo k) ys.length k) ⟨cNo k, (cBo k, .cells (cellsOf ys) 4) :: (cD ++ cO cs fs sz)⟩ .normal
      (cF xs.length c (cBo (k + 1)) ys'.length (k + 1 : Nat)) ⟨cNo (k + 1), (cBo (k + 1), .cells (cellsOf ys') 4) :: (cD ++ cO cs fs sz)⟩ (fun Q a w => cB.wp Tryz.prog Q a w) := by
  have hkn := (List.getElem?_eq_some_iff.1 hk).1
  obtain ⟨hl, hg⟩ := hi
  have hl1000 : ys.length < 10000 := by rw [hl]; unfold cLen; omega
  rcases h with ⟨hns, h⟩ | ⟨hns, hk0, h⟩
  · obtain ⟨y1, y2, t1, t2, u1, u2, ⟨hy1, hy2⟩, h1⟩ := h.img
    refine ⟨ys ++ [(⟨2, y1, y2, t1, t2, 0⟩ : El), ⟨2, 0, 0, u1, u2, 0⟩], ⟨by rw [List.length_append, hl]; unfold cLen; simp only [List.length_cons, List.length_nil]; omega, fun y hy => ?_⟩, ?_⟩
    · rcases List.mem_append.1 hy with hy | hy
      · exact hg y hy
      · simp only [List.mem_cons, List.mem_nil_iff, or_false] at hy
        rcases hy with rfl | rfl <;> assumption
    · have hcs : cellsOf (ys ++ [(⟨2, y1, y2, t1, t2, 0⟩ : El), ⟨2, 0, 0, u1, u2, 0⟩]) = cellsOf ys ++ [.int .u8 2, .complex .f64 y1 y2, .complex .f64 t1 t2, .float .f64 0, .int .u8 2, .complex .f64 0 0, .complex .f64 u1 u2, .float .f64 0] := cells_app _ _
      have hln : (ys ++ [(⟨2, y1, y2, t1, t2, 0⟩ : El), ⟨2, 0, 0, u1, u2, 0⟩]).length = ys.length + 2 := by simp
      rw [hcs, hln]
      have hf : inns 0 (cellsOf ys ++ [.int .u8 2, .complex .f64 y1 y2, .complex .f64 t1 t2, .float .f64 0, .int .u8 2, .complex .f64 0 0, .complex .f64 u1 u2, .float .f64 0]) = true := inns_app (row_cells ys).2.1 rfl
      cases k with
      | zero =>
        exact round_told (C := cReal cLb 2) (H0 := ⟨9, (8, .cells (cellsOf ys0) 4) :: cD ++ cO cs fs sz⟩) (e := cF xs.length c 8 ys.length (0 : Nat)) (H := ⟨9, (8, .cells (cellsOf ys) 4) :: (cD ++ cO cs fs sz)⟩) (n := 60) (ts := [48, 47, 46, 14, 3, 5, 10, 11]) (bo := [15, 6, 7]) (bs := [15]) (A := (9, .cells (cellsOf ys ++ [.int .u8 2, .complex .f64 y1 y2, .complex .f64 t1 t2, .float .f64 0, .int .u8 2, .complex .f64 0 0, .complex .f64 u1 u2, .float .f64 0]) 4) :: cD) (B := cO cs fs sz) (D := (8, .cells (cellsOf ys0) 4) :: cD) (cReal_ok _ _) zm_ok cB_loops
          (by unfold cReal
              rw [cB_two0, decide_eq_true (show ((0 : Nat) : Int) < xs.length by omega), cond_true, idx_ok, cond_true, rKd_at hx hk h.kind h.p, h1, ap55_ok (row_cells ys).1 rfl rfl (by omega) (by omega), fiReal_fair, wrap_up (by omega)]
              try rfl) rfl
          (renOs_row rfl hf rfl) rfl rfl rfl rfl rfl
      | succ k =>
        exact round_told (C := cReal cLc 2) (H0 := ⟨9, (8, .cells (cellsOf ys0) 4) :: cD ++ cO cs fs sz⟩) (e := cF xs.length c 9 ys.length (k + 1 : Nat)) (H := ⟨10, (9, .cells (cellsOf ys) 4) :: (cD ++ cO cs fs sz)⟩) (n := 60) (ts := [48, 47, 46, 14, 3, 5, 10, 11]) (bo := [16, 6, 7]) (bs := [16]) (A := (9, .cells (cellsOf ys ++ [.int .u8 2, .complex .f64 y1 y2, .complex .f64 t1 t2, .float .f64 0, .int .u8 2, .complex .f64 0 0, .complex .f64 u1 u2, .float .f64 0]) 4) :: cD) (B := cO cs fs sz) (D := (8, .cells (cellsOf ys0) 4) :: cD) (cReal_ok _ _) zm_ok cB_loops
          (by unfold cReal
              rw [cB_two1, decide_eq_true (show ((k + 1 : Nat) : Int) < xs.length by omega), cond_true, idx_ok, cond_true, rKd_at hx hk h.kind h.p, h1, ap55_ok (row_cells ys).1 rfl rfl (by omega) (by omega), fiReal_fair, wrap_up (by omega)]
              try rfl) rfl
          (renOs_row rfl hf rfl) rfl rfl rfl rfl rfl
  · obtain ⟨k, rfl⟩ : ∃ j, k = j + 1 := ⟨k - 1, by omega⟩
    obtain ⟨t1, t2, y1, y2, hgy, h1, h2⟩ := h.img
    refine ⟨ys ++ [(⟨3, 0, 0, y1, y2, 4607182418800017408⟩ : El)], ⟨by rw [List.length_append, hl]; unfold cLen; simp only [List.length_cons, List.length_nil]; omega, fun y hy => ?_⟩, ?_⟩
    · rcases List.mem_append.1 hy with hy | hy
      · exact hg y hy
      · simp only [List.mem_singleton] at hy
        subst hy
        assumption
    have hcs : cellsOf (ys ++ [(⟨3, 0, 0, y1, y2, 4607182418800017408⟩ : El)]) = cellsOf ys ++ [.int .u8 3, .complex .f64 0 0, .complex .f64 y1 y2, .float .f64 4607182418800017408] := cells_app _ _
    have hln : (ys ++ [(⟨3, 0, 0, y1, y2, 4607182418800017408⟩ : El)]).length = ys.length + 1 := by simp
    rw [hcs, hln]
    have hf : inns 0 (cellsOf ys ++ [.int .u8 3, .complex .f64 0 0, .complex .f64 y1 y2, .float .f64 4607182418800017408]) = true := inns_app (row_cells ys).2.1 rfl
    exact round_told (C := cReal cLc 1) (H0 := ⟨9, (8, .cells (cellsOf ys0) 4) :: cD ++ cO cs fs sz⟩) (e := cF xs.length c 9 ys.length (k + 1 : Nat)) (H := ⟨10, (9, .cells (cellsOf ys) 4) :: (cD ++ cO cs fs sz)⟩) (n := 60) (ts := [48, 47, 46, 14, 3, 5, 10, 11]) (bo := [14, 6, 7]) (bs := [14]) (A := (9, .cells (cellsOf ys ++ [.int .u8 3, .complex .f64 0 0, .complex .f64 y1 y2, .float .f64 4607182418800017408]) 4) :: cD) (B := cO cs fs sz) (D := (8, .cells (cellsOf ys0) 4) :: cD) (cReal_ok _ _) zm_ok cB_loops
      (by unfold cReal
          rw [cB_one, decide_eq_true (show ((k + 1 : Nat) : Int) < xs.length by omega), cond_true, idx_ok, cond_true, rKd_at hx hk h.kind h.p, h1, h2, ap55_ok (row_cells ys).1 rfl rfl (by omega) (by omega), fiReal_fair, wrap_up (by omega)]
          try rfl) rfl
      (renOs_row rfl hf rfl) rfl rfl rfl rfl rfl
theorem cB_last {ys0 ys : List El} (k0 : Nat) (hk : n = k0 + 1) :
    BaseOk Tryz.prog 6 81 ⟨9, (8, .cells (cellsOf ys0) 4) :: cD ++ cO cs fs sz⟩ (cF n c 9 ys.length n) ⟨10, (9, .cells (cellsOf ys) 4) :: (cD ++ cO cs fs sz)⟩ (.exit 2)
      (cF n c 9 ys.length n) ⟨10, (9, .cells (cellsOf ys) 4) :: (cD ++ cO cs fs sz)⟩ (fun Q a w => cB.wp Tryz.prog Q a w) :=
  round_told (C := cReal cLc 2) (H0 := ⟨9, (8, .cells (cellsOf ys0) 4) :: cD ++ cO cs fs sz⟩) (e := cF n c 9 ys.length n) (H := ⟨10, (9, .cells (cellsOf ys) 4) :: (cD ++ cO cs fs sz)⟩) (n := 60) (ts := [48, 47, 46, 14, 3, 5, 10, 11]) (bo := [9, 6, 7]) (bs := [9]) (A := (9, .cells (cellsOf ys) 4) :: cD) (B := cO cs fs sz) (D := (8, .cells (cellsOf ys0) 4) :: cD) (cReal_ok _ _) zm_ok cB_loops
    (by unfold cReal
        rw [cB_end, decide_eq_false (by omega)]; rfl) rfl
    (renOs_row rfl (row_cells ys).2.1 rfl) rfl rfl rfl rfl rfl
theorem cB_rounds {ys0 : List El} (hx : ElsAt cs 0 xs) {ns : Nat} (hn : xs.length < 1000) (hm : m < 1000) (h0 : 0 < ns) (hns : ns ≤ xs.length) (hns1 : xs.length ≤ ns + 1)
    (h1 : ∀ k x, xs[k]? = some x → k < ns → cSrc Good x) (h2 : ∀ x, xs[ns]? = some x → cStr Good x) (hl : ys0.length = m) (hg : ∀ y ∈ ys0, Good y) :
    ∃ ys, cInv Good m ns xs.length ys ∧ BaseRounds Tryz.prog 6 81 ⟨9, (8, .cells (cellsOf ys0) 4) :: cD ++ cO cs fs sz⟩ cB (cF xs.length c 8 m 0) ⟨9, (8, .cells (cellsOf ys0) 4) :: (cD ++ cO cs fs sz)⟩ (.exit 2)
      (cF xs.length c 9 ys.length xs.length) ⟨10, (9, .cells (cellsOf ys) 4) :: (cD ++ cO cs fs sz)⟩ := by
  have := base_while (P := Tryz.prog) (lo := 6) (sz := 81) (a := cB) (H0 := ⟨9, (8, .cells (cellsOf ys0) 4) :: cD ++ cO cs fs sz⟩) (E := fun k ys => cF xs.length c (cBo k) ys.length k) (H := fun k ys => ⟨cNo k, (cBo k, .cells (cellsOf ys) 4) :: (cD ++ cO cs fs sz)⟩)
    (ex := .exit 2) (e' := fun ys => cF xs.length c 9 ys.length xs.length) (H' := fun ys => ⟨10, (9, .cells (cellsOf ys) 4) :: (cD ++ cO cs fs sz)⟩) xs.length (cInv Good m ns)
    (fun k ys hk hi => by
      have hk' := List.getElem?_eq_getElem hk
      refine cB_step hx hn hm hk' ?_ hi
      by_cases hc : k < ns
      · exact .inl ⟨hc, h1 k _ hk' hc⟩
      · have e : k = ns := by omega
        subst e
        exact .inr ⟨rfl, by omega, h2 _ hk'⟩)
    (fun ys hi => by
      obtain ⟨k0, hk0⟩ : ∃ k0, xs.length = k0 + 1 := ⟨xs.length - 1, by omega⟩
      rw [hk0]
      exact base_end (by intro h; cases h) (cB_last k0 rfl)) xs.length 0 ys0 (by omega) ⟨by rw [hl]; unfold cLen; omega, hg⟩
  rw [hl] at this
  exact this
theorem c_hand {L1 L2 L3 : Hand} (a : Code) (h1 : LOk Tryz.prog L1 a) (h2 : LOk Tryz.prog L2 a) (h3 : LOk Tryz.prog L3 a) : LOk Tryz.prog (cH L1 L2 L3) a := orL_ok (slimL_ok h3) (orL_ok (slimL_ok h2) (slimL_ok h1))
theorem c_up {L3 : Hand} {ys : List El} (hn : xs.length < 1000) (hm : xs.length < 1000) (hf0 : 0 < xs.length) (hs : ∀ x ∈ xs, cSrc Good x ∨ cStr Good x)
    (hB : BaseRounds Tryz.prog 6 81 ⟨9, (8, .cells (cellsOf xs) 4) :: cD ++ cO (cellsOf xs) fs sz⟩ cB (cF xs.length c 8 xs.length 0) ⟨9, (8, .cells (cellsOf xs) 4) :: (cD ++ cO (cellsOf xs) fs sz)⟩ (.exit 2)
      (cF xs.length c 9 ys.length xs.length) ⟨10, (9, .cells (cellsOf ys) 4) :: (cD ++ cO (cellsOf xs) fs sz)⟩) (R : Type) (K : Ex → Env → Objs → Option R) (L : Hand)
    (hL : L = cH (told Tryz.prog (.exit 0) (cE xs.length c 0 xs.length) ⟨8, cD ++ cO (cellsOf xs) fs sz⟩) (told Tryz.prog (.exit 2) (cF xs.length c 9 ys.length xs.length) ⟨10, (9, .cells (cellsOf ys) 4) :: (cD ++ cO (cellsOf xs) fs sz)⟩) L3) :
    evTop (cReal cLa 2) 60 L 6 81 (codeOf 125) (enumE 0 [mirC, .slice (some ⟨0, 0, none⟩) xs.length c, .slice (some ⟨0, 0, none⟩) xs.length c, .map (some 5), .func (.func 130) #[mirC] #[]]) ⟨6, cO (cellsOf xs) fs sz⟩ (takeC [10, 11] [7, 9] K) =
    evTop (cReal cLa 2) 60 L 6 81 (seqN 4 (codeOf 125)) (cF xs.length c 9 ys.length xs.length) ⟨10, (9, .cells (cellsOf ys) 4) :: (cD ++ cO (cellsOf xs) fs sz)⟩ (takeC [10, 11] [7, 9] K) := by
  have hA := cA_rounds (fs := fs) (sz := sz) (c := c) (m := 0) (Good := Good) (elsAt_cells xs) hn hs
  have hA' := @base_loop _ _ _ _ _ _ _ _ _ hA
  have hB' := @base_loop _ _ _ _ _ _ _ _ _ hB
  subst hL
  unfold cReal
  refine (c_top1 fiReal R rSt (rAp Tryz.prog) (outB subK lengthK) mulK subK addK divK conjK negK (eiT checkK) sclK (cellsOf xs) fs sz xs.length c 0 K (gKd 2 (rKd 2)) _ _ L3).trans ?_
  refine (told_eq @hA' _ _).trans ?_
  rw [leave_then]
  refine (c_top2 fiReal R rSt (rAp Tryz.prog) (outB subK lengthK) mulK subK addK divK conjK negK (eiT checkK) sclK (cellsOf xs) fs sz xs.length c 0 xs.length K (gKd 2 (rKd 2)) _ _ L3).trans ?_
  rw [ap_first hf0 hm]
  refine (told_eq @hB' _ _).trans ?_
  rw [leave_then]
/-- TOO MANY -/
theorem c_many {ns : Nat} (hn : xs.length < 1000) (hm : xs.length < 1000) (hf0 : 0 < xs.length) (h0 : 0 < ns) (hns : ns ≤ xs.length) (hns1 : xs.length ≤ ns + 1)
    (h1 : ∀ k x, xs[k]? = some x → k < ns → cSrc (fun _ => True) x) (h2 : ∀ x, xs[ns]? = some x → cStr (fun _ => True) x) (hlen : 256 < cLen xs.length ns xs.length) :
    FlatCall Tryz.prog 125 [mirC, .slice (some ⟨0, 0, none⟩) xs.length c, .slice (some ⟨0, 0, none⟩) xs.length c, .map (some 5), .func (.func 130) #[mirC] #[]] ⟨6, cO (cellsOf xs) fs sz⟩ (.tuple ⟨[.agg ⟨[.slice none 0 0]⟩, .int .i64 4]⟩) := by
  obtain ⟨ys, ⟨hl, _⟩, hB⟩ := cB_rounds (cs := cellsOf xs) (fs := fs) (sz := sz) (c := c) (Good := fun _ => True) (ys0 := xs) (elsAt_cells xs) hn hm h0 hns hns1 h1 h2 rfl (fun _ _ => trivial)
  have hs : ∀ x ∈ xs, cSrc (fun _ => True) x ∨ cStr (fun _ => True) x := fun x hx => by
    obtain ⟨i, hi, rfl⟩ := List.mem_iff_getElem.1 hx
    by_cases hc : i < ns
    · exact .inl (h1 i _ (List.getElem?_eq_getElem hi) hc)
    · have : i = ns := by omega
      subst this
      exact .inr (h2 _ (List.getElem?_eq_getElem hi))
  have hup := c_up (fs := fs) (L3 := noL) hn hm hf0 hs hB (Ex × Env × Objs) (fun ex e O => some (ex, e, O)) _ rfl
  have hend := c_top3 fiReal (Ex × Env × Objs) rSt (rAp Tryz.prog) (outB subK lengthK) mulK subK addK divK conjK negK (eiT checkK) sclK (cellsOf xs) fs (cellsOf ys) sz xs.length c ys.length xs.length (fun ex e O => some (ex, e, O)) (gKd 2 (rKd 2)) (told Tryz.prog (.exit 0) (cE xs.length c 0 xs.length) ⟨8, cD ++ cO (cellsOf xs) fs sz⟩) (told Tryz.prog (.exit 2) (cF xs.length c 9 ys.length xs.length) ⟨10, (9, .cells (cellsOf ys) 4) :: (cD ++ cO (cellsOf xs) fs sz)⟩) noL
  rw [decide_eq_true (show (ys.length : Int) > 256 by omega), cond_true] at hend
  exact fun_flat (C := cReal cLa 2) (cReal_ok _ _) zm_ok Tryz.func125 m125_body (fun a _ => c_hand a (told_ok _ _ _ _ a) (told_ok _ _ _ _ a) noL_ok) (Nat.le_of_ble_eq_true rfl) (hup.trans hend) (.inr rfl) (vs := [.agg ⟨[.slice none 0 0]⟩, .int .i64 4]) rfl rfl
end
end Go.Vm
namespace Go.Vm
open Go.Proofs
set_option linter.unusedVariables false
set_option linter.unusedSimpArgs false
set_option maxRecDepth 1000000

/-! ### Wall and Circle -/
noncomputable def cxW (gl : List (Nat × HSum)) (ml : List (Nat × MSum)) (lim : Nat → Bool) : Cx := cxM fiReal Tryz.prog methT hot extL gl ml (mmOf lim [(66, gEl rEl)] rSt (rAp Tryz.prog))
theorem cxW_ok {gl : List (Nat × HSum)} (hg : GsOk Tryz.prog gl) {ml : List (Nat × MSum)} (hm : MsOk Tryz.prog ml) (lim : Nat → Bool) : (cxW gl ml lim).Ok := cxM_ok meth_ok hot_ok (fun f g h => exts_ok extL_ok f g h) hg hm (mmOf_ok lds1)
def manyV : Value := .tuple ⟨[.agg ⟨[.slice none 0 0]⟩, .int .i64 4]⟩
def fineV (j b : Nat) : Value := .tuple ⟨[.agg ⟨[.slice (some ⟨b, 0, none⟩) j j]⟩, .int .i64 0]⟩
def wlArgs (n c : Nat) : List Value := [flowV 0 n c, .complex .f64 0 0, .complex .f64 4607182418800017408 0]
def wl125 (n c m : Nat) : List Value := [mirW, sl4 m, .slice (some ⟨0, 0, none⟩) n c, .map (some 6), .func (.func 127) #[mirW] #[]]
def wl7 (n c sz : Nat) (cs fs : List Value) : AH := ⟨7, [(6, wallM), (5, .cells [.complex .f64 0 0, .complex .f64 4607182418800017408 0, .complex .f64 0 0, .float .f64 0] 0), (4, .cells fs 4), (1, .cells [.slice (some ⟨0, 0, none⟩) n c] 0), (2, .cells [.slice none 0 0] 0), (0, .cells cs sz)]⟩
def wl3 (n c sz : Nat) (cs : List Value) : AH := ⟨3, [(2, .cells [.slice none 0 0] 0), (1, .cells [.slice (some ⟨0, 0, none⟩) n c] 0), (0, .cells cs sz)]⟩
section
variable (L : Hand) (R : Type) (gk ms : HT) (mt : MT) (cs fs : List Value) (sz n c m k : Nat) (K : Ex → Env → Objs → Option R)
theorem wl_top (mv : MSum) : evTop (cxW [(107, saysV (.int .i64 0) gk)] [(125, mv)] la0) 60 (slimL [38, 37, 36, 11, 3, 9, 1, 6] [1, 2, 0] L) 1 72 (codeOf 43) (enumE 0 (wlArgs n c)) ⟨1, [(0, .cells cs sz)]⟩ (takeC [6, 7] [2, 7] K) =
    gk R [flowV 0 n c] (wl3 n c sz cs) (L R 1 72 wlA (wlE n c (.slice none 0 0) 0) ⟨4, wlD n c ++ [(0, .cells cs sz)]⟩
      (leaveE 0 (thenE (fun e H => evTop (cxW [(107, saysV (.int .i64 0) gk)] [(125, mv)] la0) 60 (slimL [38, 37, 36, 11, 3, 9, 1, 6] [1, 2, 0] L) 1 72 (seqN 7 (codeOf 43)) e H (takeC [6, 7] [2, 7] K)) (takeC [6, 7] [2, 7] K)))) := by kernel_rfl
theorem wl_many : evTop (cxW [(107, saysV (.int .i64 0) gk)] [(125, saysM manyV ms)] la0) 60 L 1 72 (seqN 7 (codeOf 43)) (wlE n c (sl4 m) k) ⟨5, (4, .cells fs 4) :: (wlD n c ++ [(0, .cells cs sz)])⟩ (takeC [6, 7] [2, 7] K) =
    ms R (wl125 n c m) (wl7 n c sz cs fs) (K .ret [(6, .pointer (some ⟨2, 0, none⟩)), (7, .int .i64 4)] [(2, .cells [.slice none 0 0] 0)]) := by kernel_rfl
theorem wl_fine (j : Nat) : evTop (cxW [(107, saysV (.int .i64 0) gk)] [(125, leavesV 4 (fineV j) mt)] la0) 60 L 1 72 (seqN 7 (codeOf 43)) (wlE n c (sl4 m) k) ⟨5, (4, .cells fs 4) :: (wlD n c ++ [(0, .cells cs sz)])⟩ (takeC [6, 7] [2, 7] K) =
    mt R (wl125 n c m) (wl7 n c sz cs fs) fun os => K .ret [(6, .pointer (some ⟨2, 0, none⟩)), (7, .int .i64 0)] [(2, .cells [.slice (some ⟨7, 0, none⟩) j j] 0), (7, .cells os 4)] := by kernel_rfl
end
theorem h107 : Has Tryz.prog 107 := ⟨Tryz.f107, _, Tryz.func107, by kernel_rfl, rfl⟩
theorem h125 : Has Tryz.prog 125 := ⟨Tryz.f125, _, Tryz.func125, by kernel_rfl, rfl⟩
theorem wl_body : Tryz.f43.body = some (codeOf 43) := by kernel_rfl
theorem chk_flat {xs : List El} {sz c : Nat} (h : FlatCall Tryz.prog 107 [flowV 0 xs.length c] ⟨1, [(0, .cells (cellsOf xs) sz)]⟩ (.int .i64 0)) : FlatCall Tryz.prog 107 [flowV 0 xs.length c] (wl3 xs.length c sz (cellsOf xs)) (.int .i64 0) :=
  FlatCall.one h (row_cells xs).2.1 (by unfold wl3; simp) rfl
theorem wl7_sub {n c sz : Nat} {cs fs : List Value} : ∀ x, x ∈ wO cs fs sz → x ∈ (wl7 n c sz cs fs).objs := fun x hx => by
  unfold wO at hx
  unfold wl7
  simp only [List.mem_cons, List.mem_nil_iff, or_false] at hx ⊢
  rcases hx with rfl | rfl | rfl <;> simp
section
variable {xs : List El} {sz c : Nat} {Good : El → Prop}
theorem wall_many_call {ns : Nat} (hn : xs.length < 1000) (h0 : 0 < ns) (hns : ns ≤ xs.length) (hns1 : xs.length ≤ ns + 1) (hck : FlatCall Tryz.prog 107 [flowV 0 xs.length c] ⟨1, [(0, .cells (cellsOf xs) sz)]⟩ (.int .i64 0))
    (h1 : ∀ k x, xs[k]? = some x → k < ns → wSrc (fun _ => True) x) (h2 : ∀ x, xs[ns]? = some x → wStr (fun _ => True) x ∧ wlStr x) (hlen : 256 < wLen xs.length ns xs.length) :
    FlatCall Tryz.prog 43 (wlArgs xs.length c) ⟨1, [(0, .cells (cellsOf xs) sz)]⟩ manyV := by
  obtain ⟨ys, ⟨hl, _⟩, hB⟩ := wl_rounds (cs := cellsOf xs) (sz := sz) (c := c) (Good := fun _ => True) (elsAt_cells xs) hn (by omega) fun k x hk => by
    by_cases hc : k < ns
    · exact .inl ⟨(h1 k x hk hc).kind, (h1 k x hk hc).p, trivial⟩
    · have hkn := (List.getElem?_eq_some_iff.1 hk).1
      have : k = ns := by omega
      subst this
      exact .inr ⟨h0, (h2 x hk).2, fun _ => trivial⟩
  have hB' := @base_loop _ _ _ _ _ _ _ _ _ hB
  have hm := w_many (sz := sz) (c := c) (fx := ys) hn (by omega) (by omega) h0 hns hns1 h1 (fun x hx => (h2 x hx).1) (by rw [hl]; exact hlen)
  have hm' : FlatCall Tryz.prog 125 (wl125 xs.length c ys.length) (wl7 xs.length c sz (cellsOf xs) (cellsOf ys)) manyV := FlatCall.sup (O := wO (cellsOf xs) (cellsOf ys) sz) hm wl7_sub
  have e := wl_top (told Tryz.prog (.exit 0) (wlE xs.length c (sl4 ys.length) xs.length) ⟨5, (4, .cells (cellsOf ys) 4) :: (wlD xs.length c ++ [(0, .cells (cellsOf xs) sz)])⟩) (Ex × Env × Objs) (saysR Tryz.prog 107 (.int .i64 0)) (cellsOf xs) sz xs.length c (fun ex e O => some (ex, e, O)) (saysM manyV (saysR Tryz.prog 125 manyV))
  rw [says_eq (chk_flat hck)] at e
  have e := e.trans (told_eq @hB' _ _)
  rw [leave_then, wl_many, says_eq hm'] at e
  exact fun_flat (C := cxW [(107, saysV (.int .i64 0) (saysR Tryz.prog 107 (.int .i64 0)))] [(125, saysM manyV (saysR Tryz.prog 125 manyV))] la0) (cxW_ok (.cons (says_ok rfl) h107 .nil) (.cons (saysM_ok rfl) h125 .nil) la0) zm_ok Tryz.func43 wl_body (fun a _ => slimL_ok (told_ok _ _ _ _ a)) (Nat.le_of_ble_eq_true rfl) e (.inr rfl) (vs := [.agg ⟨[.slice none 0 0]⟩, .int .i64 4]) rfl rfl
theorem idW_within {n c sz : Nat} {fx : List El} : Within (fun k => bif Nat.blt k 7 then some k else none) ⟨7, wO (cellsOf xs) (cellsOf fx) sz⟩ (wl7 n c sz (cellsOf xs) (cellsOf fx)) where
  obj := fun j o h => by
    refine ⟨j, o, ?_, ?_, wl7_sub _ h⟩
    · unfold wO at h
      simp only [List.mem_cons, List.mem_nil_iff, or_false, Prod.mk.injEq] at h
      rcases h with ⟨rfl, _⟩ | ⟨rfl, _⟩ | ⟨rfl, _⟩ <;> rfl
    · unfold wO at h
      simp only [List.mem_cons, List.mem_nil_iff, or_false, Prod.mk.injEq] at h
      rcases h with ⟨_, rfl⟩ | ⟨_, rfl⟩ | ⟨_, rfl⟩
      · rfl
      · simp [renO, rens_flat (row_cells fx).2.1]
      · simp [renO, rens_flat (row_cells xs).2.1]
  lt := fun j o h => by
    unfold wO at h
    simp only [List.mem_cons, List.mem_nil_iff, or_false, Prod.mk.injEq] at h
    show j < 7
    omega
  one := fun j o o' h h' => by
    unfold wO at h h'
    simp only [List.mem_cons, List.mem_nil_iff, or_false, Prod.mk.injEq] at h h'
    rcases h with ⟨rfl, rfl⟩ | ⟨rfl, rfl⟩ | ⟨rfl, rfl⟩ <;> simp at h' <;> rw [h']
  inj := fun j j' k h h' => by
    have h : (bif Nat.blt j 7 then some j else none) = some k := h
    have h' : (bif Nat.blt j' 7 then some j' else none) = some k := h'
    cases h1 : Nat.blt j 7 <;> rw [h1] at h <;> cases h
    cases h2 : Nat.blt j' 7 <;> rw [h2] at h' <;> cases h'
    rfl
  dom := fun j k h => by
    have h : (bif Nat.blt j 7 then some j else none) = some k := h
    cases h1 : Nat.blt j 7 with
    | false => rw [h1] at h; cases h
    | true => rw [Nat.blt_eq] at h1; exact h1
theorem wall_fine_call (hn : xs.length ≤ 128) (h0 : 0 < xs.length) (hck : FlatCall Tryz.prog 107 [flowV 0 xs.length c] ⟨1, [(0, .cells (cellsOf xs) sz)]⟩ (.int .i64 0))
    (h1 : ∀ x ∈ xs, wSrc CkOk x ∧ CkOk x) :
    ∃ os, inns 0 os = true ∧ ∃ H', (7, .cells os 4) ∈ H'.objs ∧ ∀ ρ w args', Inv ρ ⟨1, [(0, .cells (cellsOf xs) sz)]⟩ w → VRels ρ (wlArgs xs.length c) args' →
      Calls Tryz.prog 43 ⟨args'⟩ w fun e w' => ∃ ρ' v', e = .returned v' ∧ VRel ρ' (fineV (xs.length + xs.length) 7) v' ∧ Next 1 ρ ⟨1, [(0, .cells (cellsOf xs) sz)]⟩ w ρ' H' w' := by
  obtain ⟨ys, ⟨hl, hys⟩, hB⟩ := wl_rounds (cs := cellsOf xs) (sz := sz) (c := c) (Good := CkOk) (elsAt_cells xs) (by omega) h0 fun k x hk => by
    have := h1 x (List.mem_of_getElem? hk)
    exact .inl ⟨this.1.kind, this.1.p, this.2⟩
  have hB' := @base_loop _ _ _ _ _ _ _ _ _ hB
  obtain ⟨zs, hz, H2, hH2, hc⟩ := w_fine (sz := sz) (c := c) (fx := ys) (by omega) (by omega) (by omega) h0 (fun x hx => (h1 x hx).1) hys (by omega)
  have hm : MemCall Tryz.prog 125 (wl125 xs.length c ys.length) (wl7 xs.length c sz (cellsOf xs) (cellsOf ys)) (fineV (ys.length + xs.length) 7) ((wl7 xs.length c sz (cellsOf xs) (cellsOf ys)).push (.cells (cellsOf zs) 4)) := by
    refine calls_lift (bs := [10]) (A := [(7, .cells (cellsOf zs) 4)]) (idW_within (n := xs.length) (c := c) (sz := sz) (xs := xs) (fx := ys)) rfl rfl (fun k o2 hk => ?_) (fun j hj => ?_) hc
    · simp only [List.mem_singleton, Prod.mk.injEq] at hk
      obtain ⟨rfl, rfl⟩ := hk
      exact ⟨10, _, hH2, rfl, by simp [renO, rens_flat (row_cells zs).2.1]⟩
    · simp only [List.mem_singleton] at hj
      subst hj
      show 7 ≤ 10
      omega
  have e := wl_top (told Tryz.prog (.exit 0) (wlE xs.length c (sl4 ys.length) xs.length) ⟨5, (4, .cells (cellsOf ys) 4) :: (wlD xs.length c ++ [(0, .cells (cellsOf xs) sz)])⟩) (Ex × Env × Objs) (saysR Tryz.prog 107 (.int .i64 0)) (cellsOf xs) sz xs.length c (fun ex e O => some (ex, e, O))
    (leavesV 4 (fineV (ys.length + xs.length)) (leavesR Tryz.prog 125 4 (fineV (ys.length + xs.length)) (cellsOf zs)))
  rw [says_eq (chk_flat hck)] at e
  have e := e.trans (told_eq @hB' _ _)
  rw [leave_then, wl_fine, leaves_eq hm] at e
  obtain ⟨H', hO, g⟩ := fun_mem (C := cxW [(107, saysV (.int .i64 0) (saysR Tryz.prog 107 (.int .i64 0)))] [(125, leavesV 4 (fineV (ys.length + xs.length)) (leavesR Tryz.prog 125 4 (fineV (ys.length + xs.length)) (cellsOf zs)))] la0) (cxW_ok (.cons (says_ok rfl) h107 .nil) (.cons leaves_ok h125 .nil) la0) zm_ok (H := ⟨1, [(0, .cells (cellsOf xs) sz)]⟩) Tryz.func43 wl_body (fun a _ => slimL_ok (told_ok _ _ _ _ a)) (Nat.le_of_ble_eq_true rfl) e (.inr rfl)
    (vs := [.agg ⟨[.slice (some ⟨7, 0, none⟩) (ys.length + xs.length) (ys.length + xs.length)]⟩, .int .i64 0]) rfl
  rw [hl] at g
  exact ⟨cellsOf zs, (row_cells zs).2.1, H', hO _ (by simp), g⟩
end
end Go.Vm
