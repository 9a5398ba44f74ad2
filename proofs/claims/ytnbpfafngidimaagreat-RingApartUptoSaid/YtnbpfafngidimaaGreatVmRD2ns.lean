/- A part of the evaluator and of what is told of floats; no conditions. -/
import Derived.Test.YtnbpfafngidimaaGreatVmRA9
import Derived.Test.YtnbpfafngidimaaGreatVmRD3
namespace Go.Vm
open Go.Proofs
set_option linter.unusedVariables false
set_option linter.unusedSimpArgs false
set_option maxRecDepth 1000000

/-! ### RingApart's own equations: case ns -/
section
variable (L L1 L2 : Hand) (fi : Fi) (R : Type) (gi gk : GI) (gc : GC) (st : St) (ap : Ap) (sm : KG2B) (of : KG2C) (len : KCF) (sc : KCFC) (ti : KCC) (ne : KCCFB) (ga gx gy g1 g2 gb : HT) (mi m1 m2 : MT) (ml : List (Nat × MSum)) (gl : List (Nat × HSum)) (cs es o1 o2 : List Value)
  (sz n c j1 j2 j i k a c1 c2 rr t1 t2 m z1 z2 x1 x2 : Nat) (x y r e : Int) (K : Ex → Env → Objs → Option R)
theorem ma_round_ns : evTop (maC la6 fi gi gk gc st ap sm of len sc ti ne [] []) 60 noL 1 232 maA (maE (nilS) (slB j2 5) j i k a) ⟨6, maD es n c1 c2 rr ++ [(5, .cells o2 1), (0, .cells cs sz)]⟩ (takeC [18, 8, 11, 13, 16, 17, 15, 10] [3, 4, 2, 5] K) =
    bif decide ((j : Int) < n) then
      rdN i fun b1 => rdT gi o2 j2 k j fun b2 => maK fi gk es n j i k a b1 b2 (K .ret (maE (nilS) (slB j2 5) j i k a) (maD es n c1 c2 rr ++ [(5, .cells o2 1)])) fun j i k a => K .normal (maE (nilS) (slB j2 5) j i k a) (maD es n c1 c2 rr ++ [(5, .cells o2 1)])
    else K (.exit 0) (maE (nilS) (slB j2 5) j i k a) (maD es n c1 c2 rr ++ [(5, .cells o2 1)]) := by kernel_rfl
theorem ma_top_ns : evTop (maC la6 fi gi gk gc st ap sm of len sc ti ne [(30, saysV (.bool true) ga), (36, saysV (roV x1 x2 0) gx), (37, saysV (reV z1 z2 0) gy)] [(31, leavesV 4 (fun b => ofV (sl3 b n) true) mi), (34, saysM (thV_ nilS 0) g1), (35, leavesV 1 (fun b => thV_ (slB j2 b) 0) m2)]) 60 (orL 29 (slimL [29, 8, 10, 26, 27, 28, 24, 21, 22] [3, 4, 2, 0] L2) (slimL [18, 8, 11, 13, 16, 17, 15, 10] [3, 4, 2, 5, 0] L1)) 1 232 (codeOf 6) (enumE 0 (maArgs n c x y r)) ⟨1, [(0, .cells cs sz)]⟩ (takeC [6] [] K) =
    (ga R [] ⟨2, [(1, .cells [.int .i16 x, .int .i16 y] 0), (0, .cells cs sz)]⟩ <| mi R [.slice (some ⟨0, 0, none⟩) n c] ⟨2, [(1, .cells [.int .i16 x, .int .i16 y] 0), (0, .cells cs sz)]⟩ fun es => of R x y fun c1 c2 => forceN (floatOfInt .f64 r) fun rr =>
      bif decide ((n : Int) > 50) then K .ret [(6, .bool true)] [] else bif decide (r < 1) then K .ret [(6, .bool true)] [] else sm R x y fun t => bif t then
        g1 R [.agg ⟨[sl3 2 n]⟩, ciV c1 c2 rr] ⟨5, [(4, .cells [.complex .f64 c1 c2, .float .f64 rr] 0), (3, .cells [sl3 2 n] 0), (2, .cells es 4), (1, .cells [.int .i16 x, .int .i16 y] 0), (0, .cells cs sz)]⟩ <| m2 R [.agg ⟨[sl3 2 n]⟩, ciV c1 c2 rr] ⟨5, [(4, .cells [.complex .f64 c1 c2, .float .f64 rr] 0), (3, .cells [sl3 2 n] 0), (2, .cells es 4), (1, .cells [.int .i16 x, .int .i16 y] 0), (0, .cells cs sz)]⟩ fun o2 =>
          L1 R 1 232 maA (maE (nilS) (slB j2 5) 0 0 0 0) ⟨6, maD es n c1 c2 rr ++ [(5, .cells o2 1), (0, .cells cs sz)]⟩ (leaveE 0 (thenE (fun en H => evTop (maC la6 fi gi gk gc st ap sm of len sc ti ne [(30, saysV (.bool true) ga), (36, saysV (roV x1 x2 0) gx), (37, saysV (reV z1 z2 0) gy)] [(31, leavesV 4 (fun b => ofV (sl3 b n) true) mi), (34, saysM (thV_ nilS 0) g1), (35, leavesV 1 (fun b => thV_ (slB j2 b) 0) m2)]) 60 (orL 29 (slimL [29, 8, 10, 26, 27, 28, 24, 21, 22] [3, 4, 2, 0] L2) (slimL [18, 8, 11, 13, 16, 17, 15, 10] [3, 4, 2, 5, 0] L1)) 1 232 (seqN 14 (codeOf 6)) en H (takeC [6] [] K)) (takeC [6] [] K)))
      else K .ret [(6, .bool true)] []) := by kernel_rfl
theorem ma_mid_ns : evTop (maC la6 fi gi gk gc st ap sm of len sc ti ne [(30, saysV (.bool true) ga), (36, saysV (roV x1 x2 0) gx), (37, saysV (reV z1 z2 0) gy)] [(31, leavesV 4 (fun b => ofV (sl3 b n) true) mi), (34, saysM (thV_ nilS 0) g1), (35, leavesV 1 (fun b => thV_ (slB j2 b) 0) m2)]) 60 (orL 29 (slimL [29, 8, 10, 26, 27, 28, 24, 21, 22] [3, 4, 2, 0] L2) (slimL [18, 8, 11, 13, 16, 17, 15, 10] [3, 4, 2, 5, 0] L1)) 1 232 (seqN 14 (codeOf 6)) (maE (nilS) (slB j2 5) j i k a) ⟨6, maD es n c1 c2 rr ++ [(5, .cells o2 1), (0, .cells cs sz)]⟩ (takeC [6] [] K) =
    (gx R [.agg ⟨[sl3 2 n]⟩, ciV c1 c2 rr] ⟨6, maD es n c1 c2 rr ++ [(5, .cells o2 1), (0, .cells cs sz)]⟩ <| gy R [.agg ⟨[sl3 2 n]⟩, ciV c1 c2 rr] ⟨6, maD es n c1 c2 rr ++ [(5, .cells o2 1), (0, .cells cs sz)]⟩ <|
      bif (i : Int) != (0 : Nat) then K .ret [(6, .bool false)] [] else bif (k : Int) != (j2 : Nat) then K .ret [(6, .bool false)] [] else
        L2 R 1 232 maB (mbE 0 0 0 0 z1 z2 x1 x2) ⟨6, maD es n c1 c2 rr ++ [(0, .cells cs sz)]⟩ (leaveE 2 (thenE (fun en H => evTop (maC la6 fi gi gk gc st ap sm of len sc ti ne [(30, saysV (.bool true) ga), (36, saysV (roV x1 x2 0) gx), (37, saysV (reV z1 z2 0) gy)] [(31, leavesV 4 (fun b => ofV (sl3 b n) true) mi), (34, saysM (thV_ nilS 0) g1), (35, leavesV 1 (fun b => thV_ (slB j2 b) 0) m2)]) 60 (orL 29 (slimL [29, 8, 10, 26, 27, 28, 24, 21, 22] [3, 4, 2, 0] L2) (slimL [18, 8, 11, 13, 16, 17, 15, 10] [3, 4, 2, 5, 0] L1)) 1 232 (seqN 22 (codeOf 6)) en H (takeC [6] [] K)) (takeC [6] [] K)))) := by kernel_rfl
end
end Go.Vm
namespace Go.Vm
open Go.Proofs
set_option linter.unusedVariables false
set_option linter.unusedSimpArgs false
set_option maxRecDepth 1000000

/-! ### RingApart is told: case ns -/
section
variable {cs es : List Value} {sz c : Nat} {xs : List El} {x y r : Int} {y1 y2 lw T1 T2 M : Nat → Nat} {x1 x2 z1 z2 : Nat} (S : Sight (fI x) (fI y) (fI r))
theorem ma_step_ns (hx : ElsAt es 0 xs) (hn : xs.length < 900000) (hes : inns 0 es = true) (hn1 : sites S (-1) xs xs.length = []) {j : Nat} {X : El} (hk : xs[j]? = some X) :
    BaseOk Tryz.prog 1 232 ⟨6, maD es xs.length (fI x) (fI y) (fI r) ++ [(5, .cells (ints (sites S 1 xs xs.length)) 1), (0, .cells cs sz)]⟩ (maE nilS (slB (sites S 1 xs xs.length).length 5) j (cnt S (-1) xs j) (cnt S 1 xs j) j) ⟨6, maD es xs.length (fI x) (fI y) (fI r) ++ [(5, .cells (ints (sites S 1 xs xs.length)) 1), (0, .cells cs sz)]⟩ .normal (maE nilS (slB (sites S 1 xs xs.length).length 5) ((j + 1 : Nat) : Int) (cnt S (-1) xs (j + 1)) (cnt S 1 xs (j + 1)) ((j + 1 : Nat) : Int)) ⟨6, maD es xs.length (fI x) (fI y) (fI r) ++ [(5, .cells (ints (sites S 1 xs xs.length)) 1), (0, .cells cs sz)]⟩ (fun Q a w => maA.wp Tryz.prog Q a w) := by
  have hj := (List.getElem?_eq_some_iff.1 hk).1
  exact round_told (C := maR la6 [] []) (H0 := ⟨6, maD es xs.length (fI x) (fI y) (fI r) ++ [(5, .cells (ints (sites S 1 xs xs.length)) 1), (0, .cells cs sz)]⟩) (e := (maE nilS (slB (sites S 1 xs xs.length).length 5) j (cnt S (-1) xs j) (cnt S 1 xs j) j)) (H := ⟨6, maD es xs.length (fI x) (fI y) (fI r) ++ [(5, .cells (ints (sites S 1 xs xs.length)) 1), (0, .cells cs sz)]⟩) (n := 60) (ts := [18, 8, 11, 13, 16, 17, 15, 10]) (bo := [3, 4, 2, 5]) (bs := [])
    (A := maD es xs.length (fI x) (fI y) (fI r) ++ [(5, .cells (ints (sites S 1 xs xs.length)) 1)]) (B := [(0, .cells cs sz)]) (D := maD es xs.length (fI x) (fI y) (fI r) ++ [(5, .cells (ints (sites S 1 xs xs.length)) 1)]) (e1 := (maE nilS (slB (sites S 1 xs xs.length).length 5) ((j + 1 : Nat) : Int) (cnt S (-1) xs (j + 1)) (cnt S 1 xs (j + 1)) ((j + 1 : Nat) : Int))) (O1 := maD es xs.length (fI x) (fI y) (fI r) ++ [(5, .cells (ints (sites S 1 xs xs.length)) 1)]) (maR_ok _ .nil .nil) zm_ok maA_loops
    (by unfold maR
        refine (ma_round_ns ..).trans ?_
        rw [decide_eq_true (show (j : Int) < xs.length by omega), cond_true]
        refine (rdN_site S hn1 hk _ _).trans ?_
        refine (rdT_site S hk _ _).trans ?_
        exact maK_at S hx hn hk _ _ _) rfl
    (by simp only [maD, sl3, List.cons_append, List.nil_append, renOs, renO, renL, renV]
        rw [rens_flat hes, rens_flat (ints_flat _)]
        rfl) rfl rfl rfl rfl rfl
theorem ma_last_ns (hes : inns 0 es = true) {i k : Nat} :
    BaseOk Tryz.prog 1 232 ⟨6, maD es xs.length (fI x) (fI y) (fI r) ++ [(5, .cells (ints (sites S 1 xs xs.length)) 1), (0, .cells cs sz)]⟩ (maE nilS (slB (sites S 1 xs xs.length).length 5) xs.length i k xs.length) ⟨6, maD es xs.length (fI x) (fI y) (fI r) ++ [(5, .cells (ints (sites S 1 xs xs.length)) 1), (0, .cells cs sz)]⟩ (.exit 0) (maE nilS (slB (sites S 1 xs xs.length).length 5) xs.length i k xs.length) ⟨6, maD es xs.length (fI x) (fI y) (fI r) ++ [(5, .cells (ints (sites S 1 xs xs.length)) 1), (0, .cells cs sz)]⟩ (fun Q a w => maA.wp Tryz.prog Q a w) := by
  exact round_told (C := maR la6 [] []) (H0 := ⟨6, maD es xs.length (fI x) (fI y) (fI r) ++ [(5, .cells (ints (sites S 1 xs xs.length)) 1), (0, .cells cs sz)]⟩) (e := maE nilS (slB (sites S 1 xs xs.length).length 5) xs.length i k xs.length) (H := ⟨6, maD es xs.length (fI x) (fI y) (fI r) ++ [(5, .cells (ints (sites S 1 xs xs.length)) 1), (0, .cells cs sz)]⟩) (n := 60) (ts := [18, 8, 11, 13, 16, 17, 15, 10]) (bo := [3, 4, 2, 5]) (bs := [])
    (A := maD es xs.length (fI x) (fI y) (fI r) ++ [(5, .cells (ints (sites S 1 xs xs.length)) 1)]) (B := [(0, .cells cs sz)]) (D := maD es xs.length (fI x) (fI y) (fI r) ++ [(5, .cells (ints (sites S 1 xs xs.length)) 1)]) (e1 := maE nilS (slB (sites S 1 xs xs.length).length 5) xs.length i k xs.length) (O1 := maD es xs.length (fI x) (fI y) (fI r) ++ [(5, .cells (ints (sites S 1 xs xs.length)) 1)]) (maR_ok _ .nil .nil) zm_ok maA_loops
    (by unfold maR
        refine (ma_round_ns ..).trans ?_
        rw [decide_eq_false (by omega)]; rfl) rfl
    (by simp only [maD, sl3, List.cons_append, List.nil_append, renOs, renO, renL, renV]
        rw [rens_flat hes, rens_flat (ints_flat _)]
        rfl) rfl rfl rfl rfl rfl
theorem mb_step_ns (hx : ElsAt es 0 xs) (hn : xs.length < 900000) (hes : inns 0 es = true) (hs : Sums es xs (fI x) (fI y) (fI r) y1 y2 lw T1 T2 M) {j : Nat} {X : El} (hk : xs[j]? = some X) :
    BaseOk Tryz.prog 1 232 ⟨6, maD es xs.length (fI x) (fI y) (fI r) ++ [(0, .cells cs sz)]⟩ (mbE j (T1 j) (T2 j) (M j) z1 z2 x1 x2) ⟨6, maD es xs.length (fI x) (fI y) (fI r) ++ [(0, .cells cs sz)]⟩ .normal (mbE ((j + 1 : Nat) : Int) (T1 (j + 1)) (T2 (j + 1)) (M (j + 1)) z1 z2 x1 x2) ⟨6, maD es xs.length (fI x) (fI y) (fI r) ++ [(0, .cells cs sz)]⟩ (fun Q a w => maB.wp Tryz.prog Q a w) := by
  have hj := (List.getElem?_eq_some_iff.1 hk).1
  have hc : FlatCall Tryz.prog 36 [.agg ⟨[.slice (some ⟨2, 0 + j * 4, none⟩) (j + 1 - j) (xs.length - j)]⟩, ciV (fI x) (fI y) (fI r)] ⟨6, maD es xs.length (fI x) (fI y) (fI r) ++ [(0, .cells cs sz)]⟩ (roV (y1 j) (y2 j) 0) := by
    rw [Nat.zero_add, show j + 1 - j = 1 by omega]
    exact FlatCall.one (b := 2) (hs.call j hj) hes (by simp [maD]) rfl
  exact round_told (C := maR la6 [(36, saysV (roV (y1 j) (y2 j) 0) (saysR Tryz.prog 36 (roV (y1 j) (y2 j) 0)))] []) (H0 := ⟨6, maD es xs.length (fI x) (fI y) (fI r) ++ [(0, .cells cs sz)]⟩) (e := mbE j (T1 j) (T2 j) (M j) z1 z2 x1 x2) (H := ⟨6, maD es xs.length (fI x) (fI y) (fI r) ++ [(0, .cells cs sz)]⟩) (n := 60) (ts := [29, 8, 10, 26, 27, 28, 24, 21, 22]) (bo := [3, 4, 2]) (bs := [])
    (A := maD es xs.length (fI x) (fI y) (fI r)) (B := [(0, .cells cs sz)]) (D := maD es xs.length (fI x) (fI y) (fI r)) (e1 := mbE ((j + 1 : Nat) : Int) (T1 (j + 1)) (T2 (j + 1)) (M (j + 1)) z1 z2 x1 x2) (O1 := maD es xs.length (fI x) (fI y) (fI r)) (maR_ok _ (.cons (says_ok rfl) h36 .nil) .nil) zm_ok maB_loops
    (by unfold maR
        refine (mb_round_6 ..).trans ?_
        rw [decide_eq_true (show (j : Int) < xs.length by omega), cond_true, fiReal_fair, wrap_up (by omega), cutB_at hj hn, says_eq hc, bindF_val (hs.a1 j hj), bindF_val (hs.a2 j hj), idx_ok, cond_true, rC_strength hx hk, hs.len j X hk, bindF_val (hs.a3 j hj), fiReal_fair]) rfl
    (by simp only [maD, sl3, List.cons_append, List.nil_append, renOs, renO, renL, renV]
        rw [rens_flat hes]
        rfl) rfl rfl rfl rfl rfl
theorem mb_last_ns (hes : inns 0 es = true) {t1 t2 m : Nat} :
    BaseOk Tryz.prog 1 232 ⟨6, maD es xs.length (fI x) (fI y) (fI r) ++ [(0, .cells cs sz)]⟩ (mbE xs.length t1 t2 m z1 z2 x1 x2) ⟨6, maD es xs.length (fI x) (fI y) (fI r) ++ [(0, .cells cs sz)]⟩ (.exit 2) (mbE xs.length t1 t2 m z1 z2 x1 x2) ⟨6, maD es xs.length (fI x) (fI y) (fI r) ++ [(0, .cells cs sz)]⟩ (fun Q a w => maB.wp Tryz.prog Q a w) := by
  exact round_told (C := maR la6 [(36, saysV (roV 0 0 0) (saysR Tryz.prog 36 (roV 0 0 0)))] []) (H0 := ⟨6, maD es xs.length (fI x) (fI y) (fI r) ++ [(0, .cells cs sz)]⟩) (e := mbE xs.length t1 t2 m z1 z2 x1 x2) (H := ⟨6, maD es xs.length (fI x) (fI y) (fI r) ++ [(0, .cells cs sz)]⟩) (n := 60) (ts := [29, 8, 10, 26, 27, 28, 24, 21, 22]) (bo := [3, 4, 2]) (bs := [])
    (A := maD es xs.length (fI x) (fI y) (fI r)) (B := [(0, .cells cs sz)]) (D := maD es xs.length (fI x) (fI y) (fI r)) (e1 := mbE xs.length t1 t2 m z1 z2 x1 x2) (O1 := maD es xs.length (fI x) (fI y) (fI r)) (maR_ok _ (.cons (says_ok rfl) h36 .nil) .nil) zm_ok maB_loops
    (by unfold maR
        refine (mb_round_6 ..).trans ?_
        rw [decide_eq_false (by omega)]; rfl) rfl
    (by simp only [maD, sl3, List.cons_append, List.nil_append, renOs, renO, renL, renV]
        rw [rens_flat hes]
        rfl) rfl rfl rfl rfl rfl
theorem ma_case_ns (hx : ElsAt es 0 xs) (hn : xs.length ≤ 50) (hes : inns 0 es = true) (hn1 : sites S (-1) xs xs.length = []) (hr : ¬ r < 1) (hsm : smI x y = true) (hA : ∀ H, FlatCall Tryz.prog 30 [] H (.bool true))
    (hI : MemCall Tryz.prog 31 [.slice (some ⟨0, 0, none⟩) xs.length c] ⟨2, [(1, .cells [.int .i16 x, .int .i16 y] 0), (0, .cells cs sz)]⟩ (ofV (sl3 2 xs.length) true) (AH.push ⟨2, [(1, .cells [.int .i16 x, .int .i16 y] 0), (0, .cells cs sz)]⟩ (.cells es 4)))
    (h1 : FlatCall Tryz.prog 34 [.agg ⟨[sl3 2 xs.length]⟩, ciV (fI x) (fI y) (fI r)] ⟨5, [(4, .cells [.complex .f64 (fI x) (fI y), .float .f64 (fI r)] 0), (3, .cells [sl3 2 xs.length] 0), (2, .cells es 4), (1, .cells [.int .i16 x, .int .i16 y] 0), (0, .cells cs sz)]⟩ (thV_ nilS 0))
    (h2 : MemCall Tryz.prog 35 [.agg ⟨[sl3 2 xs.length]⟩, ciV (fI x) (fI y) (fI r)] ⟨5, [(4, .cells [.complex .f64 (fI x) (fI y), .float .f64 (fI r)] 0), (3, .cells [sl3 2 xs.length] 0), (2, .cells es 4), (1, .cells [.int .i16 x, .int .i16 y] 0), (0, .cells cs sz)]⟩ (thV_ (slB (sites S 1 xs xs.length).length 5) 0) (AH.push ⟨5, [(4, .cells [.complex .f64 (fI x) (fI y), .float .f64 (fI r)] 0), (3, .cells [sl3 2 xs.length] 0), (2, .cells es 4), (1, .cells [.int .i16 x, .int .i16 y] 0), (0, .cells cs sz)]⟩ (.cells (ints (sites S 1 xs xs.length)) 1)))
    (hX : FlatCall Tryz.prog 36 [flowV 0 xs.length xs.length, ciV (fI x) (fI y) (fI r)] ⟨1, [(0, .cells es 4)]⟩ (roV x1 x2 0)) (hY : FlatCall Tryz.prog 37 [flowV 0 xs.length xs.length, ciV (fI x) (fI y) (fI r)] ⟨1, [(0, .cells es 4)]⟩ (reV z1 z2 0))
    (hs : Sums es xs (fI x) (fI y) (fI r) y1 y2 lw T1 T2 M) (q1 : eqF (T1 xs.length) x1 = true) (q2 : eqF (T2 xs.length) x2 = true)
    (q3 : ∀ (R : Type) (k : Bool → Option R), (timesK R z1 z2 fun a b => sclK R a b 4618760256179416344 fun a b => bindF (fbF .mul 4427038433705197568 (M xs.length)) fun m => nearK R x1 x2 a b m k) = k true) :
    FlatCall Tryz.prog 6 (maArgs xs.length c x y r) ⟨1, [(0, .cells cs sz)]⟩ (.bool true) := by
  have hBA : BaseRounds Tryz.prog 1 232 ⟨6, maD es xs.length (fI x) (fI y) (fI r) ++ [(5, .cells (ints (sites S 1 xs xs.length)) 1), (0, .cells cs sz)]⟩ maA (maE nilS (slB (sites S 1 xs xs.length).length 5) 0 0 0 0) ⟨6, maD es xs.length (fI x) (fI y) (fI r) ++ [(5, .cells (ints (sites S 1 xs xs.length)) 1), (0, .cells cs sz)]⟩ (.exit 0) (maE nilS (slB (sites S 1 xs xs.length).length 5) xs.length (cnt S (-1) xs xs.length) (cnt S 1 xs xs.length) xs.length) ⟨6, maD es xs.length (fI x) (fI y) (fI r) ++ [(5, .cells (ints (sites S 1 xs xs.length)) 1), (0, .cells cs sz)]⟩ :=
    base_count (P := Tryz.prog) (lo := 1) (sz := 232) (a := maA) (H0 := ⟨6, maD es xs.length (fI x) (fI y) (fI r) ++ [(5, .cells (ints (sites S 1 xs xs.length)) 1), (0, .cells cs sz)]⟩) (E := fun j : Nat => (maE nilS (slB (sites S 1 xs xs.length).length 5) j (cnt S (-1) xs j) (cnt S 1 xs j) j)) (H := fun _ => ⟨6, maD es xs.length (fI x) (fI y) (fI r) ++ [(5, .cells (ints (sites S 1 xs xs.length)) 1), (0, .cells cs sz)]⟩) xs.length 0 (fun j _ hj => by
      have hk' := List.getElem?_eq_getElem (show j < xs.length by omega)
      exact ma_step_ns S hx (by omega) hes hn1 hk') (base_end (by intro h; cases h) (by simp only [Nat.zero_add]; exact ma_last_ns S hes))
  have hBA' := @base_loop _ _ _ _ _ _ _ _ _ hBA
  have hBB : BaseRounds Tryz.prog 1 232 ⟨6, maD es xs.length (fI x) (fI y) (fI r) ++ [(0, .cells cs sz)]⟩ maB (mbE 0 0 0 0 z1 z2 x1 x2) ⟨6, maD es xs.length (fI x) (fI y) (fI r) ++ [(0, .cells cs sz)]⟩ (.exit 2) (mbE xs.length (T1 xs.length) (T2 xs.length) (M xs.length) z1 z2 x1 x2) ⟨6, maD es xs.length (fI x) (fI y) (fI r) ++ [(0, .cells cs sz)]⟩ := by
    have := base_count (P := Tryz.prog) (lo := 1) (sz := 232) (a := maB) (H0 := ⟨6, maD es xs.length (fI x) (fI y) (fI r) ++ [(0, .cells cs sz)]⟩) (E := fun j : Nat => mbE j (T1 j) (T2 j) (M j) z1 z2 x1 x2) (H := fun _ => ⟨6, maD es xs.length (fI x) (fI y) (fI r) ++ [(0, .cells cs sz)]⟩) (ex := .exit 2) (e' := mbE xs.length (T1 xs.length) (T2 xs.length) (M xs.length) z1 z2 x1 x2) (H' := ⟨6, maD es xs.length (fI x) (fI y) (fI r) ++ [(0, .cells cs sz)]⟩) xs.length 0 (fun j _ hj => by
      have hk' := List.getElem?_eq_getElem (show j < xs.length by omega)
      exact mb_step_ns hx (by omega) hes hs hk') (base_end (by intro h; cases h) (by simp only [Nat.zero_add]; exact mb_last_ns hes))
    simp only [hs.z1, hs.z2, hs.z3] at this
    exact this
  have hBB' := @base_loop _ _ _ _ _ _ _ _ _ hBB
  have hX' : FlatCall Tryz.prog 36 [.agg ⟨[sl3 2 xs.length]⟩, ciV (fI x) (fI y) (fI r)] ⟨6, maD es xs.length (fI x) (fI y) (fI r) ++ [(5, .cells (ints (sites S 1 xs xs.length)) 1), (0, .cells cs sz)]⟩ (roV x1 x2 0) := FlatCall.one (b := 2) hX hes (by simp [maD]) rfl
  have hY' : FlatCall Tryz.prog 37 [.agg ⟨[sl3 2 xs.length]⟩, ciV (fI x) (fI y) (fI r)] ⟨6, maD es xs.length (fI x) (fI y) (fI r) ++ [(5, .cells (ints (sites S 1 xs xs.length)) 1), (0, .cells cs sz)]⟩ (reV z1 z2 0) := FlatCall.one (b := 2) hY hes (by simp [maD]) rfl
  have h : evTop (maR la6 [(30, saysV (.bool true) (saysR Tryz.prog 30 (.bool true))), (36, saysV (roV x1 x2 0) (saysR Tryz.prog 36 (roV x1 x2 0))), (37, saysV (reV z1 z2 0) (saysR Tryz.prog 37 (reV z1 z2 0)))] [(31, leavesV 4 (fun b => ofV (sl3 b xs.length) true) (leavesR Tryz.prog 31 4 (fun b => ofV (sl3 b xs.length) true) es)), (34, saysM (thV_ nilS 0) (saysR Tryz.prog 34 (thV_ nilS 0))), (35, leavesV 1 (fun b => thV_ (slB (sites S 1 xs xs.length).length b) 0) (leavesR Tryz.prog 35 1 (fun b => thV_ (slB (sites S 1 xs xs.length).length b) 0) (ints (sites S 1 xs xs.length))))]) 60 (orL 29 (slimL [29, 8, 10, 26, 27, 28, 24, 21, 22] [3, 4, 2, 0] (told Tryz.prog (.exit 2) (mbE xs.length (T1 xs.length) (T2 xs.length) (M xs.length) z1 z2 x1 x2) ⟨6, maD es xs.length (fI x) (fI y) (fI r) ++ [(0, .cells cs sz)]⟩)) (slimL [18, 8, 11, 13, 16, 17, 15, 10] [3, 4, 2, 5, 0] (told Tryz.prog (.exit 0) (maE nilS (slB (sites S 1 xs xs.length).length 5) xs.length (cnt S (-1) xs xs.length) (cnt S 1 xs xs.length) xs.length) ⟨6, maD es xs.length (fI x) (fI y) (fI r) ++ [(5, .cells (ints (sites S 1 xs xs.length)) 1), (0, .cells cs sz)]⟩))) 1 232 (codeOf 6) (enumE 0 (maArgs xs.length c x y r)) ⟨1, [(0, .cells cs sz)]⟩ (takeC [6] [] fun ex e O => some (ex, e, O)) = some (.ret, [(6, .bool true)], []) := by
    unfold maR
    refine (ma_top_ns ..).trans ?_
    rw [says_eq (hA _), leaves_eq hI, of2_eq, forceN_eq, decide_eq_false (show ¬ ((xs.length : Nat) : Int) > 50 by omega), cond_false, decide_eq_false hr, cond_false, smB_eq, hsm, cond_true]
    refine Eq.trans (says_eq h1) ?_
    refine Eq.trans (leaves_eq h2) ?_
    refine (told_eq @hBA' _ _).trans ?_
    rw [leave_then]
    refine (ma_mid_ns ..).trans ?_
    rw [says_eq hX', says_eq hY', show (((cnt S (-1) xs xs.length : Nat) : Int) != ((0 : Nat) : Int)) = false from by rw [show cnt S (-1) xs xs.length = 0 from by unfold cnt; rw [hn1]; rfl]; rfl, cond_false, show (((cnt S 1 xs xs.length : Nat) : Int) != (((sites S 1 xs xs.length).length : Nat) : Int)) = false from by unfold cnt; simp, cond_false]
    refine (told_eq @hBB' _ _).trans ?_
    rw [leave_then]
    refine (mb_end ..).trans ?_
    simp only [q1, q2, cond_true]
    exact q3 _ _
  exact fun_flat (C := maR la6 [(30, saysV (.bool true) (saysR Tryz.prog 30 (.bool true))), (36, saysV (roV x1 x2 0) (saysR Tryz.prog 36 (roV x1 x2 0))), (37, saysV (reV z1 z2 0) (saysR Tryz.prog 37 (reV z1 z2 0)))] [(31, leavesV 4 (fun b => ofV (sl3 b xs.length) true) (leavesR Tryz.prog 31 4 (fun b => ofV (sl3 b xs.length) true) es)), (34, saysM (thV_ nilS 0) (saysR Tryz.prog 34 (thV_ nilS 0))), (35, leavesV 1 (fun b => thV_ (slB (sites S 1 xs xs.length).length b) 0) (leavesR Tryz.prog 35 1 (fun b => thV_ (slB (sites S 1 xs xs.length).length b) 0) (ints (sites S 1 xs xs.length))))]) (args := maArgs xs.length c x y r) (H := ⟨1, [(0, .cells cs sz)]⟩) (maR_ok _ (.cons (says_ok rfl) h30 (.cons (says_ok rfl) h36 (.cons (says_ok rfl) h37 .nil))) (.cons leaves_ok h31 (.cons (saysM_ok rfl) h34 (.cons leaves_ok h35 .nil)))) zm_ok Tryz.func6 ma_body
    (fun a _ => orL_ok (slimL_ok (told_ok _ _ _ _ a)) (slimL_ok (told_ok _ _ _ _ a))) (Nat.le_of_ble_eq_true rfl) h (.inr rfl) (vs := [.bool true]) rfl rfl
end
end Go.Vm
namespace Go.Vm
open Go.Proofs
set_option linter.unusedVariables false
set_option linter.unusedSimpArgs false
set_option maxRecDepth 1000000

/-! ### RingApart's own equations: case sn -/
section
variable (L L1 L2 : Hand) (fi : Fi) (R : Type) (gi gk : GI) (gc : GC) (st : St) (ap : Ap) (sm : KG2B) (of : KG2C) (len : KCF) (sc : KCFC) (ti : KCC) (ne : KCCFB) (ga gx gy g1 g2 gb : HT) (mi m1 m2 : MT) (ml : List (Nat × MSum)) (gl : List (Nat × HSum)) (cs es o1 o2 : List Value)
  (sz n c j1 j2 j i k a c1 c2 rr t1 t2 m z1 z2 x1 x2 : Nat) (x y r e : Int) (K : Ex → Env → Objs → Option R)
theorem ma_round_sn : evTop (maC la6 fi gi gk gc st ap sm of len sc ti ne [] []) 60 noL 1 232 maA (maE (slB j1 5) (nilS) j i k a) ⟨6, maD es n c1 c2 rr ++ [(5, .cells o1 1), (0, .cells cs sz)]⟩ (takeC [18, 8, 11, 13, 16, 17, 15, 10] [3, 4, 2, 5] K) =
    bif decide ((j : Int) < n) then
      rdS gi o1 j1 i j fun b1 => rdN k fun b2 => maK fi gk es n j i k a b1 b2 (K .ret (maE (slB j1 5) (nilS) j i k a) (maD es n c1 c2 rr ++ [(5, .cells o1 1)])) fun j i k a => K .normal (maE (slB j1 5) (nilS) j i k a) (maD es n c1 c2 rr ++ [(5, .cells o1 1)])
    else K (.exit 0) (maE (slB j1 5) (nilS) j i k a) (maD es n c1 c2 rr ++ [(5, .cells o1 1)]) := by kernel_rfl
theorem ma_top_sn : evTop (maC la6 fi gi gk gc st ap sm of len sc ti ne [(30, saysV (.bool true) ga), (36, saysV (roV x1 x2 0) gx), (37, saysV (reV z1 z2 0) gy)] [(31, leavesV 4 (fun b => ofV (sl3 b n) true) mi), (34, leavesV 1 (fun b => thV_ (slB j1 b) 0) m1), (35, saysM (thV_ nilS 0) g2)]) 60 (orL 29 (slimL [29, 8, 10, 26, 27, 28, 24, 21, 22] [3, 4, 2, 0] L2) (slimL [18, 8, 11, 13, 16, 17, 15, 10] [3, 4, 2, 5, 0] L1)) 1 232 (codeOf 6) (enumE 0 (maArgs n c x y r)) ⟨1, [(0, .cells cs sz)]⟩ (takeC [6] [] K) =
    (ga R [] ⟨2, [(1, .cells [.int .i16 x, .int .i16 y] 0), (0, .cells cs sz)]⟩ <| mi R [.slice (some ⟨0, 0, none⟩) n c] ⟨2, [(1, .cells [.int .i16 x, .int .i16 y] 0), (0, .cells cs sz)]⟩ fun es => of R x y fun c1 c2 => forceN (floatOfInt .f64 r) fun rr =>
      bif decide ((n : Int) > 50) then K .ret [(6, .bool true)] [] else bif decide (r < 1) then K .ret [(6, .bool true)] [] else sm R x y fun t => bif t then
        m1 R [.agg ⟨[sl3 2 n]⟩, ciV c1 c2 rr] ⟨5, [(4, .cells [.complex .f64 c1 c2, .float .f64 rr] 0), (3, .cells [sl3 2 n] 0), (2, .cells es 4), (1, .cells [.int .i16 x, .int .i16 y] 0), (0, .cells cs sz)]⟩ fun o1 => g2 R [.agg ⟨[sl3 2 n]⟩, ciV c1 c2 rr] ⟨6, [(5, .cells o1 1), (4, .cells [.complex .f64 c1 c2, .float .f64 rr] 0), (3, .cells [sl3 2 n] 0), (2, .cells es 4), (1, .cells [.int .i16 x, .int .i16 y] 0), (0, .cells cs sz)]⟩ <|
          L1 R 1 232 maA (maE (slB j1 5) (nilS) 0 0 0 0) ⟨6, maD es n c1 c2 rr ++ [(5, .cells o1 1), (0, .cells cs sz)]⟩ (leaveE 0 (thenE (fun en H => evTop (maC la6 fi gi gk gc st ap sm of len sc ti ne [(30, saysV (.bool true) ga), (36, saysV (roV x1 x2 0) gx), (37, saysV (reV z1 z2 0) gy)] [(31, leavesV 4 (fun b => ofV (sl3 b n) true) mi), (34, leavesV 1 (fun b => thV_ (slB j1 b) 0) m1), (35, saysM (thV_ nilS 0) g2)]) 60 (orL 29 (slimL [29, 8, 10, 26, 27, 28, 24, 21, 22] [3, 4, 2, 0] L2) (slimL [18, 8, 11, 13, 16, 17, 15, 10] [3, 4, 2, 5, 0] L1)) 1 232 (seqN 14 (codeOf 6)) en H (takeC [6] [] K)) (takeC [6] [] K)))
      else K .ret [(6, .bool true)] []) := by kernel_rfl
theorem ma_mid_sn : evTop (maC la6 fi gi gk gc st ap sm of len sc ti ne [(30, saysV (.bool true) ga), (36, saysV (roV x1 x2 0) gx), (37, saysV (reV z1 z2 0) gy)] [(31, leavesV 4 (fun b => ofV (sl3 b n) true) mi), (34, leavesV 1 (fun b => thV_ (slB j1 b) 0) m1), (35, saysM (thV_ nilS 0) g2)]) 60 (orL 29 (slimL [29, 8, 10, 26, 27, 28, 24, 21, 22] [3, 4, 2, 0] L2) (slimL [18, 8, 11, 13, 16, 17, 15, 10] [3, 4, 2, 5, 0] L1)) 1 232 (seqN 14 (codeOf 6)) (maE (slB j1 5) (nilS) j i k a) ⟨6, maD es n c1 c2 rr ++ [(5, .cells o1 1), (0, .cells cs sz)]⟩ (takeC [6] [] K) =
    (gx R [.agg ⟨[sl3 2 n]⟩, ciV c1 c2 rr] ⟨6, maD es n c1 c2 rr ++ [(5, .cells o1 1), (0, .cells cs sz)]⟩ <| gy R [.agg ⟨[sl3 2 n]⟩, ciV c1 c2 rr] ⟨6, maD es n c1 c2 rr ++ [(5, .cells o1 1), (0, .cells cs sz)]⟩ <|
      bif (i : Int) != (j1 : Nat) then K .ret [(6, .bool false)] [] else bif (k : Int) != (0 : Nat) then K .ret [(6, .bool false)] [] else
        L2 R 1 232 maB (mbE 0 0 0 0 z1 z2 x1 x2) ⟨6, maD es n c1 c2 rr ++ [(0, .cells cs sz)]⟩ (leaveE 2 (thenE (fun en H => evTop (maC la6 fi gi gk gc st ap sm of len sc ti ne [(30, saysV (.bool true) ga), (36, saysV (roV x1 x2 0) gx), (37, saysV (reV z1 z2 0) gy)] [(31, leavesV 4 (fun b => ofV (sl3 b n) true) mi), (34, leavesV 1 (fun b => thV_ (slB j1 b) 0) m1), (35, saysM (thV_ nilS 0) g2)]) 60 (orL 29 (slimL [29, 8, 10, 26, 27, 28, 24, 21, 22] [3, 4, 2, 0] L2) (slimL [18, 8, 11, 13, 16, 17, 15, 10] [3, 4, 2, 5, 0] L1)) 1 232 (seqN 22 (codeOf 6)) en H (takeC [6] [] K)) (takeC [6] [] K)))) := by kernel_rfl
end
end Go.Vm
namespace Go.Vm
open Go.Proofs
set_option linter.unusedVariables false
set_option linter.unusedSimpArgs false
set_option maxRecDepth 1000000

/-! ### RingApart is told: case sn -/
section
variable {cs es : List Value} {sz c : Nat} {xs : List El} {x y r : Int} {y1 y2 lw T1 T2 M : Nat → Nat} {x1 x2 z1 z2 : Nat} (S : Sight (fI x) (fI y) (fI r))
theorem ma_step_sn (hx : ElsAt es 0 xs) (hn : xs.length < 900000) (hes : inns 0 es = true) (hn2 : sites S 1 xs xs.length = []) {j : Nat} {X : El} (hk : xs[j]? = some X) :
    BaseOk Tryz.prog 1 232 ⟨6, maD es xs.length (fI x) (fI y) (fI r) ++ [(5, .cells (ints (sites S (-1) xs xs.length)) 1), (0, .cells cs sz)]⟩ (maE (slB (sites S (-1) xs xs.length).length 5) nilS j (cnt S (-1) xs j) (cnt S 1 xs j) j) ⟨6, maD es xs.length (fI x) (fI y) (fI r) ++ [(5, .cells (ints (sites S (-1) xs xs.length)) 1), (0, .cells cs sz)]⟩ .normal (maE (slB (sites S (-1) xs xs.length).length 5) nilS ((j + 1 : Nat) : Int) (cnt S (-1) xs (j + 1)) (cnt S 1 xs (j + 1)) ((j + 1 : Nat) : Int)) ⟨6, maD es xs.length (fI x) (fI y) (fI r) ++ [(5, .cells (ints (sites S (-1) xs xs.length)) 1), (0, .cells cs sz)]⟩ (fun Q a w => maA.wp Tryz.prog Q a w) := by
  have hj := (List.getElem?_eq_some_iff.1 hk).1
  exact round_told (C := maR la6 [] []) (H0 := ⟨6, maD es xs.length (fI x) (fI y) (fI r) ++ [(5, .cells (ints (sites S (-1) xs xs.length)) 1), (0, .cells cs sz)]⟩) (e := (maE (slB (sites S (-1) xs xs.length).length 5) nilS j (cnt S (-1) xs j) (cnt S 1 xs j) j)) (H := ⟨6, maD es xs.length (fI x) (fI y) (fI r) ++ [(5, .cells (ints (sites S (-1) xs xs.length)) 1), (0, .cells cs sz)]⟩) (n := 60) (ts := [18, 8, 11, 13, 16, 17, 15, 10]) (bo := [3, 4, 2, 5]) (bs := [])
    (A := maD es xs.length (fI x) (fI y) (fI r) ++ [(5, .cells (ints (sites S (-1) xs xs.length)) 1)]) (B := [(0, .cells cs sz)]) (D := maD es xs.length (fI x) (fI y) (fI r) ++ [(5, .cells (ints (sites S (-1) xs xs.length)) 1)]) (e1 := (maE (slB (sites S (-1) xs xs.length).length 5) nilS ((j + 1 : Nat) : Int) (cnt S (-1) xs (j + 1)) (cnt S 1 xs (j + 1)) ((j + 1 : Nat) : Int))) (O1 := maD es xs.length (fI x) (fI y) (fI r) ++ [(5, .cells (ints (sites S (-1) xs xs.length)) 1)]) (maR_ok _ .nil .nil) zm_ok maA_loops
    (by unfold maR
        refine (ma_round_sn ..).trans ?_
        rw [decide_eq_true (show (j : Int) < xs.length by omega), cond_true]
        refine (rdS_site S hk _ _).trans ?_
        refine (rdN_site S hn2 hk _ _).trans ?_
        exact maK_at S hx hn hk _ _ _) rfl
    (by simp only [maD, sl3, List.cons_append, List.nil_append, renOs, renO, renL, renV]
        rw [rens_flat hes, rens_flat (ints_flat _)]
        rfl) rfl rfl rfl rfl rfl
theorem ma_last_sn (hes : inns 0 es = true) {i k : Nat} :
    BaseOk Tryz.prog 1 232 ⟨6, maD es xs.length (fI x) (fI y) (fI r) ++ [(5, .cells (ints (sites S (-1) xs xs.length)) 1), (0, .cells cs sz)]⟩ (maE (slB (sites S (-1) xs xs.length).length 5) nilS xs.length i k xs.length) ⟨6, maD es xs.length (fI x) (fI y) (fI r) ++ [(5, .cells (ints (sites S (-1) xs xs.length)) 1), (0, .cells cs sz)]⟩ (.exit 0) (maE (slB (sites S (-1) xs xs.length).length 5) nilS xs.length i k xs.length) ⟨6, maD es xs.length (fI x) (fI y) (fI r) ++ [(5, .cells (ints (sites S (-1) xs xs.length)) 1), (0, .cells cs sz)]⟩ (fun Q a w => maA.wp Tryz.prog Q a w) := by
  exact round_told (C := maR la6 [] []) (H0 := ⟨6, maD es xs.length (fI x) (fI y) (fI r) ++ [(5, .cells (ints (sites S (-1) xs xs.length)) 1), (0, .cells cs sz)]⟩) (e := maE (slB (sites S (-1) xs xs.length).length 5) nilS xs.length i k xs.length) (H := ⟨6, maD es xs.length (fI x) (fI y) (fI r) ++ [(5, .cells (ints (sites S (-1) xs xs.length)) 1), (0, .cells cs sz)]⟩) (n := 60) (ts := [18, 8, 11, 13, 16, 17, 15, 10]) (bo := [3, 4, 2, 5]) (bs := [])
    (A := maD es xs.length (fI x) (fI y) (fI r) ++ [(5, .cells (ints (sites S (-1) xs xs.length)) 1)]) (B := [(0, .cells cs sz)]) (D := maD es xs.length (fI x) (fI y) (fI r) ++ [(5, .cells (ints (sites S (-1) xs xs.length)) 1)]) (e1 := maE (slB (sites S (-1) xs xs.length).length 5) nilS xs.length i k xs.length) (O1 := maD es xs.length (fI x) (fI y) (fI r) ++ [(5, .cells (ints (sites S (-1) xs xs.length)) 1)]) (maR_ok _ .nil .nil) zm_ok maA_loops
    (by unfold maR
        refine (ma_round_sn ..).trans ?_
        rw [decide_eq_false (by omega)]; rfl) rfl
    (by simp only [maD, sl3, List.cons_append, List.nil_append, renOs, renO, renL, renV]
        rw [rens_flat hes, rens_flat (ints_flat _)]
        rfl) rfl rfl rfl rfl rfl
theorem mb_step_sn (hx : ElsAt es 0 xs) (hn : xs.length < 900000) (hes : inns 0 es = true) (hs : Sums es xs (fI x) (fI y) (fI r) y1 y2 lw T1 T2 M) {j : Nat} {X : El} (hk : xs[j]? = some X) :
    BaseOk Tryz.prog 1 232 ⟨6, maD es xs.length (fI x) (fI y) (fI r) ++ [(0, .cells cs sz)]⟩ (mbE j (T1 j) (T2 j) (M j) z1 z2 x1 x2) ⟨6, maD es xs.length (fI x) (fI y) (fI r) ++ [(0, .cells cs sz)]⟩ .normal (mbE ((j + 1 : Nat) : Int) (T1 (j + 1)) (T2 (j + 1)) (M (j + 1)) z1 z2 x1 x2) ⟨6, maD es xs.length (fI x) (fI y) (fI r) ++ [(0, .cells cs sz)]⟩ (fun Q a w => maB.wp Tryz.prog Q a w) := by
  have hj := (List.getElem?_eq_some_iff.1 hk).1
  have hc : FlatCall Tryz.prog 36 [.agg ⟨[.slice (some ⟨2, 0 + j * 4, none⟩) (j + 1 - j) (xs.length - j)]⟩, ciV (fI x) (fI y) (fI r)] ⟨6, maD es xs.length (fI x) (fI y) (fI r) ++ [(0, .cells cs sz)]⟩ (roV (y1 j) (y2 j) 0) := by
    rw [Nat.zero_add, show j + 1 - j = 1 by omega]
    exact FlatCall.one (b := 2) (hs.call j hj) hes (by simp [maD]) rfl
  exact round_told (C := maR la6 [(36, saysV (roV (y1 j) (y2 j) 0) (saysR Tryz.prog 36 (roV (y1 j) (y2 j) 0)))] []) (H0 := ⟨6, maD es xs.length (fI x) (fI y) (fI r) ++ [(0, .cells cs sz)]⟩) (e := mbE j (T1 j) (T2 j) (M j) z1 z2 x1 x2) (H := ⟨6, maD es xs.length (fI x) (fI y) (fI r) ++ [(0, .cells cs sz)]⟩) (n := 60) (ts := [29, 8, 10, 26, 27, 28, 24, 21, 22]) (bo := [3, 4, 2]) (bs := [])
    (A := maD es xs.length (fI x) (fI y) (fI r)) (B := [(0, .cells cs sz)]) (D := maD es xs.length (fI x) (fI y) (fI r)) (e1 := mbE ((j + 1 : Nat) : Int) (T1 (j + 1)) (T2 (j + 1)) (M (j + 1)) z1 z2 x1 x2) (O1 := maD es xs.length (fI x) (fI y) (fI r)) (maR_ok _ (.cons (says_ok rfl) h36 .nil) .nil) zm_ok maB_loops
    (by unfold maR
        refine (mb_round_6 ..).trans ?_
        rw [decide_eq_true (show (j : Int) < xs.length by omega), cond_true, fiReal_fair, wrap_up (by omega), cutB_at hj hn, says_eq hc, bindF_val (hs.a1 j hj), bindF_val (hs.a2 j hj), idx_ok, cond_true, rC_strength hx hk, hs.len j X hk, bindF_val (hs.a3 j hj), fiReal_fair]) rfl
    (by simp only [maD, sl3, List.cons_append, List.nil_append, renOs, renO, renL, renV]
        rw [rens_flat hes]
        rfl) rfl rfl rfl rfl rfl
theorem mb_last_sn (hes : inns 0 es = true) {t1 t2 m : Nat} :
    BaseOk Tryz.prog 1 232 ⟨6, maD es xs.length (fI x) (fI y) (fI r) ++ [(0, .cells cs sz)]⟩ (mbE xs.length t1 t2 m z1 z2 x1 x2) ⟨6, maD es xs.length (fI x) (fI y) (fI r) ++ [(0, .cells cs sz)]⟩ (.exit 2) (mbE xs.length t1 t2 m z1 z2 x1 x2) ⟨6, maD es xs.length (fI x) (fI y) (fI r) ++ [(0, .cells cs sz)]⟩ (fun Q a w => maB.wp Tryz.prog Q a w) := by
  exact round_told (C := maR la6 [(36, saysV (roV 0 0 0) (saysR Tryz.prog 36 (roV 0 0 0)))] []) (H0 := ⟨6, maD es xs.length (fI x) (fI y) (fI r) ++ [(0, .cells cs sz)]⟩) (e := mbE xs.length t1 t2 m z1 z2 x1 x2) (H := ⟨6, maD es xs.length (fI x) (fI y) (fI r) ++ [(0, .cells cs sz)]⟩) (n := 60) (ts := [29, 8, 10, 26, 27, 28, 24, 21, 22]) (bo := [3, 4, 2]) (bs := [])
    (A := maD es xs.length (fI x) (fI y) (fI r)) (B := [(0, .cells cs sz)]) (D := maD es xs.length (fI x) (fI y) (fI r)) (e1 := mbE xs.length t1 t2 m z1 z2 x1 x2) (O1 := maD es xs.length (fI x) (fI y) (fI r)) (maR_ok _ (.cons (says_ok rfl) h36 .nil) .nil) zm_ok maB_loops
    (by unfold maR
        refine (mb_round_6 ..).trans ?_
        rw [decide_eq_false (by omega)]; rfl) rfl
    (by simp only [maD, sl3, List.cons_append, List.nil_append, renOs, renO, renL, renV]
        rw [rens_flat hes]
        rfl) rfl rfl rfl rfl rfl
theorem ma_case_sn (hx : ElsAt es 0 xs) (hn : xs.length ≤ 50) (hes : inns 0 es = true) (hn2 : sites S 1 xs xs.length = []) (hr : ¬ r < 1) (hsm : smI x y = true) (hA : ∀ H, FlatCall Tryz.prog 30 [] H (.bool true))
    (hI : MemCall Tryz.prog 31 [.slice (some ⟨0, 0, none⟩) xs.length c] ⟨2, [(1, .cells [.int .i16 x, .int .i16 y] 0), (0, .cells cs sz)]⟩ (ofV (sl3 2 xs.length) true) (AH.push ⟨2, [(1, .cells [.int .i16 x, .int .i16 y] 0), (0, .cells cs sz)]⟩ (.cells es 4)))
    (h1 : MemCall Tryz.prog 34 [.agg ⟨[sl3 2 xs.length]⟩, ciV (fI x) (fI y) (fI r)] ⟨5, [(4, .cells [.complex .f64 (fI x) (fI y), .float .f64 (fI r)] 0), (3, .cells [sl3 2 xs.length] 0), (2, .cells es 4), (1, .cells [.int .i16 x, .int .i16 y] 0), (0, .cells cs sz)]⟩ (thV_ (slB (sites S (-1) xs xs.length).length 5) 0) (AH.push ⟨5, [(4, .cells [.complex .f64 (fI x) (fI y), .float .f64 (fI r)] 0), (3, .cells [sl3 2 xs.length] 0), (2, .cells es 4), (1, .cells [.int .i16 x, .int .i16 y] 0), (0, .cells cs sz)]⟩ (.cells (ints (sites S (-1) xs xs.length)) 1)))
    (h2 : FlatCall Tryz.prog 35 [.agg ⟨[sl3 2 xs.length]⟩, ciV (fI x) (fI y) (fI r)] ⟨6, [(5, .cells (ints (sites S (-1) xs xs.length)) 1), (4, .cells [.complex .f64 (fI x) (fI y), .float .f64 (fI r)] 0), (3, .cells [sl3 2 xs.length] 0), (2, .cells es 4), (1, .cells [.int .i16 x, .int .i16 y] 0), (0, .cells cs sz)]⟩ (thV_ nilS 0))
    (hX : FlatCall Tryz.prog 36 [flowV 0 xs.length xs.length, ciV (fI x) (fI y) (fI r)] ⟨1, [(0, .cells es 4)]⟩ (roV x1 x2 0)) (hY : FlatCall Tryz.prog 37 [flowV 0 xs.length xs.length, ciV (fI x) (fI y) (fI r)] ⟨1, [(0, .cells es 4)]⟩ (reV z1 z2 0))
    (hs : Sums es xs (fI x) (fI y) (fI r) y1 y2 lw T1 T2 M) (q1 : eqF (T1 xs.length) x1 = true) (q2 : eqF (T2 xs.length) x2 = true)
    (q3 : ∀ (R : Type) (k : Bool → Option R), (timesK R z1 z2 fun a b => sclK R a b 4618760256179416344 fun a b => bindF (fbF .mul 4427038433705197568 (M xs.length)) fun m => nearK R x1 x2 a b m k) = k true) :
    FlatCall Tryz.prog 6 (maArgs xs.length c x y r) ⟨1, [(0, .cells cs sz)]⟩ (.bool true) := by
  have hBA : BaseRounds Tryz.prog 1 232 ⟨6, maD es xs.length (fI x) (fI y) (fI r) ++ [(5, .cells (ints (sites S (-1) xs xs.length)) 1), (0, .cells cs sz)]⟩ maA (maE (slB (sites S (-1) xs xs.length).length 5) nilS 0 0 0 0) ⟨6, maD es xs.length (fI x) (fI y) (fI r) ++ [(5, .cells (ints (sites S (-1) xs xs.length)) 1), (0, .cells cs sz)]⟩ (.exit 0) (maE (slB (sites S (-1) xs xs.length).length 5) nilS xs.length (cnt S (-1) xs xs.length) (cnt S 1 xs xs.length) xs.length) ⟨6, maD es xs.length (fI x) (fI y) (fI r) ++ [(5, .cells (ints (sites S (-1) xs xs.length)) 1), (0, .cells cs sz)]⟩ :=
    base_count (P := Tryz.prog) (lo := 1) (sz := 232) (a := maA) (H0 := ⟨6, maD es xs.length (fI x) (fI y) (fI r) ++ [(5, .cells (ints (sites S (-1) xs xs.length)) 1), (0, .cells cs sz)]⟩) (E := fun j : Nat => (maE (slB (sites S (-1) xs xs.length).length 5) nilS j (cnt S (-1) xs j) (cnt S 1 xs j) j)) (H := fun _ => ⟨6, maD es xs.length (fI x) (fI y) (fI r) ++ [(5, .cells (ints (sites S (-1) xs xs.length)) 1), (0, .cells cs sz)]⟩) xs.length 0 (fun j _ hj => by
      have hk' := List.getElem?_eq_getElem (show j < xs.length by omega)
      exact ma_step_sn S hx (by omega) hes hn2 hk') (base_end (by intro h; cases h) (by simp only [Nat.zero_add]; exact ma_last_sn S hes))
  have hBA' := @base_loop _ _ _ _ _ _ _ _ _ hBA
  have hBB : BaseRounds Tryz.prog 1 232 ⟨6, maD es xs.length (fI x) (fI y) (fI r) ++ [(0, .cells cs sz)]⟩ maB (mbE 0 0 0 0 z1 z2 x1 x2) ⟨6, maD es xs.length (fI x) (fI y) (fI r) ++ [(0, .cells cs sz)]⟩ (.exit 2) (mbE xs.length (T1 xs.length) (T2 xs.length) (M xs.length) z1 z2 x1 x2) ⟨6, maD es xs.length (fI x) (fI y) (fI r) ++ [(0, .cells cs sz)]⟩ := by
    have := base_count (P := Tryz.prog) (lo := 1) (sz := 232) (a := maB) (H0 := ⟨6, maD es xs.length (fI x) (fI y) (fI r) ++ [(0, .cells cs sz)]⟩) (E := fun j : Nat => mbE j (T1 j) (T2 j) (M j) z1 z2 x1 x2) (H := fun _ => ⟨6, maD es xs.length (fI x) (fI y) (fI r) ++ [(0, .cells cs sz)]⟩) (ex := .exit 2) (e' := mbE xs.length (T1 xs.length) (T2 xs.length) (M xs.length) z1 z2 x1 x2) (H' := ⟨6, maD es xs.length (fI x) (fI y) (fI r) ++ [(0, .cells cs sz)]⟩) xs.length 0 (fun j _ hj => by
      have hk' := List.getElem?_eq_getElem (show j < xs.length by omega)
      exact mb_step_sn hx (by omega) hes hs hk') (base_end (by intro h; cases h) (by simp only [Nat.zero_add]; exact mb_last_sn hes))
    simp only [hs.z1, hs.z2, hs.z3] at this
    exact this
  have hBB' := @base_loop _ _ _ _ _ _ _ _ _ hBB
  have hX' : FlatCall Tryz.prog 36 [.agg ⟨[sl3 2 xs.length]⟩, ciV (fI x) (fI y) (fI r)] ⟨6, maD es xs.length (fI x) (fI y) (fI r) ++ [(5, .cells (ints (sites S (-1) xs xs.length)) 1), (0, .cells cs sz)]⟩ (roV x1 x2 0) := FlatCall.one (b := 2) hX hes (by simp [maD]) rfl
  have hY' : FlatCall Tryz.prog 37 [.agg ⟨[sl3 2 xs.length]⟩, ciV (fI x) (fI y) (fI r)] ⟨6, maD es xs.length (fI x) (fI y) (fI r) ++ [(5, .cells (ints (sites S (-1) xs xs.length)) 1), (0, .cells cs sz)]⟩ (reV z1 z2 0) := FlatCall.one (b := 2) hY hes (by simp [maD]) rfl
  have h : evTop (maR la6 [(30, saysV (.bool true) (saysR Tryz.prog 30 (.bool true))), (36, saysV (roV x1 x2 0) (saysR Tryz.prog 36 (roV x1 x2 0))), (37, saysV (reV z1 z2 0) (saysR Tryz.prog 37 (reV z1 z2 0)))] [(31, leavesV 4 (fun b => ofV (sl3 b xs.length) true) (leavesR Tryz.prog 31 4 (fun b => ofV (sl3 b xs.length) true) es)), (34, leavesV 1 (fun b => thV_ (slB (sites S (-1) xs xs.length).length b) 0) (leavesR Tryz.prog 34 1 (fun b => thV_ (slB (sites S (-1) xs xs.length).length b) 0) (ints (sites S (-1) xs xs.length)))), (35, saysM (thV_ nilS 0) (saysR Tryz.prog 35 (thV_ nilS 0)))]) 60 (orL 29 (slimL [29, 8, 10, 26, 27, 28, 24, 21, 22] [3, 4, 2, 0] (told Tryz.prog (.exit 2) (mbE xs.length (T1 xs.length) (T2 xs.length) (M xs.length) z1 z2 x1 x2) ⟨6, maD es xs.length (fI x) (fI y) (fI r) ++ [(0, .cells cs sz)]⟩)) (slimL [18, 8, 11, 13, 16, 17, 15, 10] [3, 4, 2, 5, 0] (told Tryz.prog (.exit 0) (maE (slB (sites S (-1) xs xs.length).length 5) nilS xs.length (cnt S (-1) xs xs.length) (cnt S 1 xs xs.length) xs.length) ⟨6, maD es xs.length (fI x) (fI y) (fI r) ++ [(5, .cells (ints (sites S (-1) xs xs.length)) 1), (0, .cells cs sz)]⟩))) 1 232 (codeOf 6) (enumE 0 (maArgs xs.length c x y r)) ⟨1, [(0, .cells cs sz)]⟩ (takeC [6] [] fun ex e O => some (ex, e, O)) = some (.ret, [(6, .bool true)], []) := by
    unfold maR
    refine (ma_top_sn ..).trans ?_
    rw [says_eq (hA _), leaves_eq hI, of2_eq, forceN_eq, decide_eq_false (show ¬ ((xs.length : Nat) : Int) > 50 by omega), cond_false, decide_eq_false hr, cond_false, smB_eq, hsm, cond_true]
    refine Eq.trans (leaves_eq h1) ?_
    refine Eq.trans (says_eq h2) ?_
    refine (told_eq @hBA' _ _).trans ?_
    rw [leave_then]
    refine (ma_mid_sn ..).trans ?_
    rw [says_eq hX', says_eq hY', show (((cnt S (-1) xs xs.length : Nat) : Int) != (((sites S (-1) xs xs.length).length : Nat) : Int)) = false from by unfold cnt; simp, cond_false, show (((cnt S 1 xs xs.length : Nat) : Int) != ((0 : Nat) : Int)) = false from by rw [show cnt S 1 xs xs.length = 0 from by unfold cnt; rw [hn2]; rfl]; rfl, cond_false]
    refine (told_eq @hBB' _ _).trans ?_
    rw [leave_then]
    refine (mb_end ..).trans ?_
    simp only [q1, q2, cond_true]
    exact q3 _ _
  exact fun_flat (C := maR la6 [(30, saysV (.bool true) (saysR Tryz.prog 30 (.bool true))), (36, saysV (roV x1 x2 0) (saysR Tryz.prog 36 (roV x1 x2 0))), (37, saysV (reV z1 z2 0) (saysR Tryz.prog 37 (reV z1 z2 0)))] [(31, leavesV 4 (fun b => ofV (sl3 b xs.length) true) (leavesR Tryz.prog 31 4 (fun b => ofV (sl3 b xs.length) true) es)), (34, leavesV 1 (fun b => thV_ (slB (sites S (-1) xs xs.length).length b) 0) (leavesR Tryz.prog 34 1 (fun b => thV_ (slB (sites S (-1) xs xs.length).length b) 0) (ints (sites S (-1) xs xs.length)))), (35, saysM (thV_ nilS 0) (saysR Tryz.prog 35 (thV_ nilS 0)))]) (args := maArgs xs.length c x y r) (H := ⟨1, [(0, .cells cs sz)]⟩) (maR_ok _ (.cons (says_ok rfl) h30 (.cons (says_ok rfl) h36 (.cons (says_ok rfl) h37 .nil))) (.cons leaves_ok h31 (.cons leaves_ok h34 (.cons (saysM_ok rfl) h35 .nil)))) zm_ok Tryz.func6 ma_body
    (fun a _ => orL_ok (slimL_ok (told_ok _ _ _ _ a)) (slimL_ok (told_ok _ _ _ _ a))) (Nat.le_of_ble_eq_true rfl) h (.inr rfl) (vs := [.bool true]) rfl rfl
end
end Go.Vm
