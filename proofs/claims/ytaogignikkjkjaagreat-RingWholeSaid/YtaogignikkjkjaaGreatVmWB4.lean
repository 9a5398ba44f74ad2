/- A part of the evaluator and of what is told of floats; no conditions. -/
import Derived.Test.YtaogignikkjkjaaGreatVmWA5
set_option linter.unusedSectionVars false
set_option linter.unusedSimpArgs false
set_option linter.unusedVariables false
set_option maxRecDepth 1000000
namespace Go.Vm
open Go.Proofs
def limQ0 (b:Nat):Bool:=Nat.beq b 0 || Nat.beq b 7
def limQ1 (b:Nat):Bool:=Nat.beq b 0 || Nat.beq b 3 || Nat.beq b 8
section
variable (L:Hand) (fi:Fi) (R:Type) (ge:GEl) (st:St) (ap:Ap) (sg:KSg) (si:KSi) (dv:KDv) (pr:KPr) (ov ng:KCC) (mu:KCCC) (sc:KCFC) (fn:KCB) (ga gs:HT) (cs os ls:List Value) (sz n c j i0 k h c1 c2 r x1 x2 y1 y2 xp z1 z2:Nat) (xk pw:Int) (K:Ex→Env→Objs→Option R)
theorem j_nil0:evTop (sqC limQ0 fi ge st ap sg si dv pr ov ng mu sc fn []) 60 noL 1 89 sqB (siE n c 3 pw nilS h nilS k) ⟨4,xb 3 xk x1 x2 y1 y2 xp::abD n c c1 c2 r++[(0,.cells cs sz)]⟩ (takeC siT [3,2,1,6] K) =
  bif decide ((k:Int)<n) then
   bif decide (0≤(k:Int)) && decide ((k:Int)<n) && true then
    ge R cs (0+k*4) fun kind a1 a2 s1 s2 p=>wiX sg si kind a1 a2 s1 s2 p c1 c2 r
     (fi R (IntKind.i64.wrap (k+1)) fun i=>K .normal (siE n c 3 pw nilS h nilS i) (xb 3 xk x1 x2 y1 y2 xp::abD n c c1 c2 r))
     (dv R kind a1 a2 s1 s2 p x1 x2 pw fun u1 u2=>fi R (IntKind.i64.wrap (k+1)) fun i=>K .normal (siE n c 3 pw nilS h (sl3 6 1) i) (xb 3 xk x1 x2 y1 y2 xp::abD n c c1 c2 r++[(6,.cells [.complex .f64 u1 u2] 1)]))
   else none
  else K (.exit 2) (siE n c 3 pw nilS h nilS k) (xb 3 xk x1 x2 y1 y2 xp::abD n c c1 c2 r):=by kernel_rfl
theorem j_some0:evTop (sqC limQ0 fi ge st ap sg si dv pr ov ng mu sc fn []) 60 noL 1 89 sqB (siE n c 3 pw nilS h (sl3 7 j) k) ⟨8,xb 3 xk x1 x2 y1 y2 xp::abD n c c1 c2 r++[(7,.cells os 1),(0,.cells cs sz)]⟩ (takeC siT [3,2,1,10] K) =
  bif decide ((k:Int)<n) then
   bif decide (0≤(k:Int)) && decide ((k:Int)<n) && true then
    ge R cs (0+k*4) fun kind a1 a2 s1 s2 p=>wiX sg si kind a1 a2 s1 s2 p c1 c2 r
     (fi R (IntKind.i64.wrap (k+1)) fun i=>K .normal (siE n c 3 pw nilS h (sl3 7 j) i) (xb 3 xk x1 x2 y1 y2 xp::abD n c c1 c2 r))
     (dv R kind a1 a2 s1 s2 p x1 x2 pw fun u1 u2=>ap R 82 os j j [.complex .f64 u1 u2] 0 1 fun os=>fi R (IntKind.i64.wrap (k+1)) fun i=>K .normal (siE n c 3 pw nilS h (sl3 10 (j+1)) i) (xb 3 xk x1 x2 y1 y2 xp::abD n c c1 c2 r++[(10,.cells os 1)]))
   else none
  else K (.exit 2) (siE n c 3 pw nilS h (sl3 7 j) k) (xb 3 xk x1 x2 y1 y2 xp::abD n c c1 c2 r):=by kernel_rfl
theorem j_keep0:evTop (sqC limQ0 fi ge st ap sg si dv pr ov ng mu sc fn []) 60 noL 1 89 sqB (siE n c 3 pw nilS h (sl3 7 j) k) ⟨8,xb 3 xk x1 x2 y1 y2 xp::abD n c c1 c2 r++[(7,.cells os 1),(0,.cells cs sz)]⟩ (takeC siT [3,2,1,7] K) =
  bif decide ((k:Int)<n) then
   bif decide (0≤(k:Int)) && decide ((k:Int)<n) && true then
    ge R cs (0+k*4) fun kind a1 a2 s1 s2 p=>wiX sg si kind a1 a2 s1 s2 p c1 c2 r
     (fi R (IntKind.i64.wrap (k+1)) fun i=>K .normal (siE n c 3 pw nilS h (sl3 7 j) i) (xb 3 xk x1 x2 y1 y2 xp::abD n c c1 c2 r++[(7,.cells os 1)]))
     (dv R kind a1 a2 s1 s2 p x1 x2 pw fun u1 u2=>ap R 82 os j j [.complex .f64 u1 u2] 0 1 fun os=>fi R (IntKind.i64.wrap (k+1)) fun i=>K .normal (siE n c 3 pw nilS h (sl3 10 (j+1)) i) (xb 3 xk x1 x2 y1 y2 xp::abD n c c1 c2 r))
   else none
  else K (.exit 2) (siE n c 3 pw nilS h (sl3 7 j) k) (xb 3 xk x1 x2 y1 y2 xp::abD n c c1 c2 r++[(7,.cells os 1)]):=by kernel_rfl
theorem oq_00:evTop (sqC limQ0 fi ge st ap sg si dv pr ov ng mu sc fn [(44,saysV (.complex .f64 z1 z2) gs)]) 60 (slimL siT [3,2,1,0] L) 1 89 sqA (soE n c nilS h) ⟨3,abD n c c1 c2 r++[(0,.cells cs sz)]⟩ (takeC soT [5,2,1] K) =
  bif decide ((h:Int)<n) then
   bif decide (0≤(h:Int)) && decide ((h:Int)<n) && true then
    ge R cs (0+h*4) fun kind a1 a2 s1 s2 p=>wiX sg si kind a1 a2 s1 s2 p c1 c2 r
     ((floatToIntVal .f64 p .i64).bind fun m=>fi R m fun m=>L R 1 89 sqB (siE n c 3 m nilS h nilS 0) ⟨4,xb 3 kind a1 a2 s1 s2 p::abD n c c1 c2 r++[(0,.cells cs sz)]⟩
      (leaveE 2 (thenE (fun en H=>evTop (sqC limQ0 fi ge st ap sg si dv pr ov ng mu sc fn [(44,saysV (.complex .f64 z1 z2) gs)]) 60 (slimL siT [3,2,1,0] L) 1 89 (seqN 5 sqX) en H (leaveE 1 (thenE (fun en H=>evTop (sqC limQ0 fi ge st ap sg si dv pr ov ng mu sc fn [(44,saysV (.complex .f64 z1 z2) gs)]) 60 (slimL siT [3,2,1,0] L) 1 89 (seqN 3 sqA) en H (takeC soT [5,2,1] K)) (takeC soT [5,2,1] K)))) (leaveE 1 (thenE (fun en H=>evTop (sqC limQ0 fi ge st ap sg si dv pr ov ng mu sc fn [(44,saysV (.complex .f64 z1 z2) gs)]) 60 (slimL siT [3,2,1,0] L) 1 89 (seqN 3 sqA) en H (takeC soT [5,2,1] K)) (takeC soT [5,2,1] K))))))
     (fi R (IntKind.i64.wrap (h+1)) fun i=>K .normal (soE n c nilS i) (abD n c c1 c2 r))
   else none
  else K (.exit 0) (soE n c nilS h) (abD n c c1 c2 r):=by kernel_rfl
theorem rq_00:evTop (sqC limQ0 fi ge st ap sg si dv pr ov ng mu sc fn [(44,saysV (.complex .f64 z1 z2) gs)]) 60 L 1 89 (seqN 5 sqX) (siE n c 3 pw nilS h nilS k) ⟨4,xb 3 xk x1 x2 y1 y2 xp::abD n c c1 c2 r++[(0,.cells cs sz)]⟩ (leaveE 1 (thenE (fun en H=>evTop (sqC limQ0 fi ge st ap sg si dv pr ov ng mu sc fn [(44,saysV (.complex .f64 z1 z2) gs)]) 60 L 1 89 (seqN 3 sqA) en H (takeC soT [5,2,1] K)) (takeC soT [5,2,1] K))) =
  bif xk == 2 then ov R y1 y2 fun u1 u2=>gs R [nilS] ⟨4,xb 3 xk x1 x2 y1 y2 xp::abD n c c1 c2 r++[(0,.cells cs sz)]⟩ (mu R u1 u2 z1 z2 fun q1 q2=>fi R (IntKind.i64.wrap (h+1)) fun i=>K .normal (soE n c (sl3 5 1) i) ((5,.cells [.complex .f64 q1 q2] 1)::abD n c c1 c2 r))
  else ng R y1 y2 fun u1 u2=>gs R [nilS] ⟨4,xb 3 xk x1 x2 y1 y2 xp::abD n c c1 c2 r++[(0,.cells cs sz)]⟩ (mu R u1 u2 z1 z2 fun v1 v2=>fi R (IntKind.i64.wrap (pw-1)) fun m=>pr R 1 m fun w=>bindF (fbF .quo 4607182418800017408 w) fun w=>sc R v1 v2 w fun q1 q2=>fi R (IntKind.i64.wrap (h+1)) fun i=>K .normal (soE n c (sl3 5 1) i) ((5,.cells [.complex .f64 q1 q2] 1)::abD n c c1 c2 r)):=by kernel_rfl
theorem oq_01:evTop (sqC limQ0 fi ge st ap sg si dv pr ov ng mu sc fn [(44,saysV (.complex .f64 z1 z2) gs)]) 60 (slimL siT [3,2,1,0] L) 1 89 sqA (soE n c nilS h) ⟨3,abD n c c1 c2 r++[(0,.cells cs sz)]⟩ (takeC soT [9,2,1] K) =
  bif decide ((h:Int)<n) then
   bif decide (0≤(h:Int)) && decide ((h:Int)<n) && true then
    ge R cs (0+h*4) fun kind a1 a2 s1 s2 p=>wiX sg si kind a1 a2 s1 s2 p c1 c2 r
     ((floatToIntVal .f64 p .i64).bind fun m=>fi R m fun m=>L R 1 89 sqB (siE n c 3 m nilS h nilS 0) ⟨4,xb 3 kind a1 a2 s1 s2 p::abD n c c1 c2 r++[(0,.cells cs sz)]⟩
      (leaveE 2 (thenE (fun en H=>evTop (sqC limQ0 fi ge st ap sg si dv pr ov ng mu sc fn [(44,saysV (.complex .f64 z1 z2) gs)]) 60 (slimL siT [3,2,1,0] L) 1 89 (seqN 5 sqX) en H (leaveE 1 (thenE (fun en H=>evTop (sqC limQ0 fi ge st ap sg si dv pr ov ng mu sc fn [(44,saysV (.complex .f64 z1 z2) gs)]) 60 (slimL siT [3,2,1,0] L) 1 89 (seqN 3 sqA) en H (takeC soT [9,2,1] K)) (takeC soT [9,2,1] K)))) (leaveE 1 (thenE (fun en H=>evTop (sqC limQ0 fi ge st ap sg si dv pr ov ng mu sc fn [(44,saysV (.complex .f64 z1 z2) gs)]) 60 (slimL siT [3,2,1,0] L) 1 89 (seqN 3 sqA) en H (takeC soT [9,2,1] K)) (takeC soT [9,2,1] K))))))
     (fi R (IntKind.i64.wrap (h+1)) fun i=>K .normal (soE n c nilS i) (abD n c c1 c2 r))
   else none
  else K (.exit 0) (soE n c nilS h) (abD n c c1 c2 r):=by kernel_rfl
theorem rq_01:evTop (sqC limQ0 fi ge st ap sg si dv pr ov ng mu sc fn [(44,saysV (.complex .f64 z1 z2) gs)]) 60 L 1 89 (seqN 5 sqX) (siE n c 3 pw nilS h (sl3 7 j) k) ⟨8,xb 3 xk x1 x2 y1 y2 xp::abD n c c1 c2 r++[(7,.cells os 1),(0,.cells cs sz)]⟩ (leaveE 1 (thenE (fun en H=>evTop (sqC limQ0 fi ge st ap sg si dv pr ov ng mu sc fn [(44,saysV (.complex .f64 z1 z2) gs)]) 60 L 1 89 (seqN 3 sqA) en H (takeC soT [9,2,1] K)) (takeC soT [9,2,1] K))) =
  bif xk == 2 then ov R y1 y2 fun u1 u2=>gs R [(sl3 7 j)] ⟨8,xb 3 xk x1 x2 y1 y2 xp::abD n c c1 c2 r++[(7,.cells os 1),(0,.cells cs sz)]⟩ (mu R u1 u2 z1 z2 fun q1 q2=>fi R (IntKind.i64.wrap (h+1)) fun i=>K .normal (soE n c (sl3 9 1) i) ((9,.cells [.complex .f64 q1 q2] 1)::abD n c c1 c2 r))
  else ng R y1 y2 fun u1 u2=>gs R [(sl3 7 j)] ⟨8,xb 3 xk x1 x2 y1 y2 xp::abD n c c1 c2 r++[(7,.cells os 1),(0,.cells cs sz)]⟩ (mu R u1 u2 z1 z2 fun v1 v2=>fi R (IntKind.i64.wrap (pw-1)) fun m=>pr R 1 m fun w=>bindF (fbF .quo 4607182418800017408 w) fun w=>sc R v1 v2 w fun q1 q2=>fi R (IntKind.i64.wrap (h+1)) fun i=>K .normal (soE n c (sl3 9 1) i) ((9,.cells [.complex .f64 q1 q2] 1)::abD n c c1 c2 r)):=by kernel_rfl
theorem j_nil1:evTop (sqC limQ1 fi ge st ap sg si dv pr ov ng mu sc fn []) 60 noL 1 89 sqB (siE n c 4 pw (sl3 3 i0) h nilS k) ⟨5,xb 4 xk x1 x2 y1 y2 xp::(3,.cells ls 1)::abD n c c1 c2 r++[(0,.cells cs sz)]⟩ (takeC siT [4,3,2,1,7] K) =
  bif decide ((k:Int)<n) then
   bif decide (0≤(k:Int)) && decide ((k:Int)<n) && true then
    ge R cs (0+k*4) fun kind a1 a2 s1 s2 p=>wiX sg si kind a1 a2 s1 s2 p c1 c2 r
     (fi R (IntKind.i64.wrap (k+1)) fun i=>K .normal (siE n c 4 pw (sl3 3 i0) h nilS i) (xb 4 xk x1 x2 y1 y2 xp::(3,.cells ls 1)::abD n c c1 c2 r))
     (dv R kind a1 a2 s1 s2 p x1 x2 pw fun u1 u2=>fi R (IntKind.i64.wrap (k+1)) fun i=>K .normal (siE n c 4 pw (sl3 3 i0) h (sl3 7 1) i) (xb 4 xk x1 x2 y1 y2 xp::(3,.cells ls 1)::abD n c c1 c2 r++[(7,.cells [.complex .f64 u1 u2] 1)]))
   else none
  else K (.exit 2) (siE n c 4 pw (sl3 3 i0) h nilS k) (xb 4 xk x1 x2 y1 y2 xp::(3,.cells ls 1)::abD n c c1 c2 r):=by kernel_rfl
theorem j_some1:evTop (sqC limQ1 fi ge st ap sg si dv pr ov ng mu sc fn []) 60 noL 1 89 sqB (siE n c 4 pw (sl3 3 i0) h (sl3 8 j) k) ⟨9,xb 4 xk x1 x2 y1 y2 xp::(3,.cells ls 1)::abD n c c1 c2 r++[(8,.cells os 1),(0,.cells cs sz)]⟩ (takeC siT [4,3,2,1,11] K) =
  bif decide ((k:Int)<n) then
   bif decide (0≤(k:Int)) && decide ((k:Int)<n) && true then
    ge R cs (0+k*4) fun kind a1 a2 s1 s2 p=>wiX sg si kind a1 a2 s1 s2 p c1 c2 r
     (fi R (IntKind.i64.wrap (k+1)) fun i=>K .normal (siE n c 4 pw (sl3 3 i0) h (sl3 8 j) i) (xb 4 xk x1 x2 y1 y2 xp::(3,.cells ls 1)::abD n c c1 c2 r))
     (dv R kind a1 a2 s1 s2 p x1 x2 pw fun u1 u2=>ap R 82 os j j [.complex .f64 u1 u2] 0 1 fun os=>fi R (IntKind.i64.wrap (k+1)) fun i=>K .normal (siE n c 4 pw (sl3 3 i0) h (sl3 11 (j+1)) i) (xb 4 xk x1 x2 y1 y2 xp::(3,.cells ls 1)::abD n c c1 c2 r++[(11,.cells os 1)]))
   else none
  else K (.exit 2) (siE n c 4 pw (sl3 3 i0) h (sl3 8 j) k) (xb 4 xk x1 x2 y1 y2 xp::(3,.cells ls 1)::abD n c c1 c2 r):=by kernel_rfl
theorem j_keep1:evTop (sqC limQ1 fi ge st ap sg si dv pr ov ng mu sc fn []) 60 noL 1 89 sqB (siE n c 4 pw (sl3 3 i0) h (sl3 8 j) k) ⟨9,xb 4 xk x1 x2 y1 y2 xp::(3,.cells ls 1)::abD n c c1 c2 r++[(8,.cells os 1),(0,.cells cs sz)]⟩ (takeC siT [4,3,2,1,8] K) =
  bif decide ((k:Int)<n) then
   bif decide (0≤(k:Int)) && decide ((k:Int)<n) && true then
    ge R cs (0+k*4) fun kind a1 a2 s1 s2 p=>wiX sg si kind a1 a2 s1 s2 p c1 c2 r
     (fi R (IntKind.i64.wrap (k+1)) fun i=>K .normal (siE n c 4 pw (sl3 3 i0) h (sl3 8 j) i) (xb 4 xk x1 x2 y1 y2 xp::(3,.cells ls 1)::abD n c c1 c2 r++[(8,.cells os 1)]))
     (dv R kind a1 a2 s1 s2 p x1 x2 pw fun u1 u2=>ap R 82 os j j [.complex .f64 u1 u2] 0 1 fun os=>fi R (IntKind.i64.wrap (k+1)) fun i=>K .normal (siE n c 4 pw (sl3 3 i0) h (sl3 11 (j+1)) i) (xb 4 xk x1 x2 y1 y2 xp::(3,.cells ls 1)::abD n c c1 c2 r))
   else none
  else K (.exit 2) (siE n c 4 pw (sl3 3 i0) h (sl3 8 j) k) (xb 4 xk x1 x2 y1 y2 xp::(3,.cells ls 1)::abD n c c1 c2 r++[(8,.cells os 1)]):=by kernel_rfl
theorem oq_10:evTop (sqC limQ1 fi ge st ap sg si dv pr ov ng mu sc fn [(44,saysV (.complex .f64 z1 z2) gs)]) 60 (slimL siT [4,3,2,1,0] L) 1 89 sqA (soE n c (sl3 3 i0) h) ⟨4,(3,.cells ls 1)::abD n c c1 c2 r++[(0,.cells cs sz)]⟩ (takeC soT [6,2,1] K) =
  bif decide ((h:Int)<n) then
   bif decide (0≤(h:Int)) && decide ((h:Int)<n) && true then
    ge R cs (0+h*4) fun kind a1 a2 s1 s2 p=>wiX sg si kind a1 a2 s1 s2 p c1 c2 r
     ((floatToIntVal .f64 p .i64).bind fun m=>fi R m fun m=>L R 1 89 sqB (siE n c 4 m (sl3 3 i0) h nilS 0) ⟨5,xb 4 kind a1 a2 s1 s2 p::(3,.cells ls 1)::abD n c c1 c2 r++[(0,.cells cs sz)]⟩
      (leaveE 2 (thenE (fun en H=>evTop (sqC limQ1 fi ge st ap sg si dv pr ov ng mu sc fn [(44,saysV (.complex .f64 z1 z2) gs)]) 60 (slimL siT [4,3,2,1,0] L) 1 89 (seqN 5 sqX) en H (leaveE 1 (thenE (fun en H=>evTop (sqC limQ1 fi ge st ap sg si dv pr ov ng mu sc fn [(44,saysV (.complex .f64 z1 z2) gs)]) 60 (slimL siT [4,3,2,1,0] L) 1 89 (seqN 3 sqA) en H (takeC soT [6,2,1] K)) (takeC soT [6,2,1] K)))) (leaveE 1 (thenE (fun en H=>evTop (sqC limQ1 fi ge st ap sg si dv pr ov ng mu sc fn [(44,saysV (.complex .f64 z1 z2) gs)]) 60 (slimL siT [4,3,2,1,0] L) 1 89 (seqN 3 sqA) en H (takeC soT [6,2,1] K)) (takeC soT [6,2,1] K))))))
     (fi R (IntKind.i64.wrap (h+1)) fun i=>K .normal (soE n c (sl3 3 i0) i) (abD n c c1 c2 r))
   else none
  else K (.exit 0) (soE n c (sl3 3 i0) h) (abD n c c1 c2 r):=by kernel_rfl
theorem rq_10:evTop (sqC limQ1 fi ge st ap sg si dv pr ov ng mu sc fn [(44,saysV (.complex .f64 z1 z2) gs)]) 60 L 1 89 (seqN 5 sqX) (siE n c 4 pw (sl3 3 i0) h nilS k) ⟨5,xb 4 xk x1 x2 y1 y2 xp::(3,.cells ls 1)::abD n c c1 c2 r++[(0,.cells cs sz)]⟩ (leaveE 1 (thenE (fun en H=>evTop (sqC limQ1 fi ge st ap sg si dv pr ov ng mu sc fn [(44,saysV (.complex .f64 z1 z2) gs)]) 60 L 1 89 (seqN 3 sqA) en H (takeC soT [6,2,1] K)) (takeC soT [6,2,1] K))) =
  bif xk == 2 then ov R y1 y2 fun u1 u2=>gs R [nilS] ⟨5,xb 4 xk x1 x2 y1 y2 xp::(3,.cells ls 1)::abD n c c1 c2 r++[(0,.cells cs sz)]⟩ (mu R u1 u2 z1 z2 fun q1 q2=>ap R 82 ls i0 i0 [.complex .f64 q1 q2] 0 1 fun ls=>fi R (IntKind.i64.wrap (h+1)) fun i=>K .normal (soE n c (sl3 6 (i0+1)) i) ((6,.cells ls 1)::abD n c c1 c2 r))
  else ng R y1 y2 fun u1 u2=>gs R [nilS] ⟨5,xb 4 xk x1 x2 y1 y2 xp::(3,.cells ls 1)::abD n c c1 c2 r++[(0,.cells cs sz)]⟩ (mu R u1 u2 z1 z2 fun v1 v2=>fi R (IntKind.i64.wrap (pw-1)) fun m=>pr R 1 m fun w=>bindF (fbF .quo 4607182418800017408 w) fun w=>sc R v1 v2 w fun q1 q2=>ap R 82 ls i0 i0 [.complex .f64 q1 q2] 0 1 fun ls=>fi R (IntKind.i64.wrap (h+1)) fun i=>K .normal (soE n c (sl3 6 (i0+1)) i) ((6,.cells ls 1)::abD n c c1 c2 r)):=by kernel_rfl
theorem oq_11:evTop (sqC limQ1 fi ge st ap sg si dv pr ov ng mu sc fn [(44,saysV (.complex .f64 z1 z2) gs)]) 60 (slimL siT [4,3,2,1,0] L) 1 89 sqA (soE n c (sl3 3 i0) h) ⟨4,(3,.cells ls 1)::abD n c c1 c2 r++[(0,.cells cs sz)]⟩ (takeC soT [10,2,1] K) =
  bif decide ((h:Int)<n) then
   bif decide (0≤(h:Int)) && decide ((h:Int)<n) && true then
    ge R cs (0+h*4) fun kind a1 a2 s1 s2 p=>wiX sg si kind a1 a2 s1 s2 p c1 c2 r
     ((floatToIntVal .f64 p .i64).bind fun m=>fi R m fun m=>L R 1 89 sqB (siE n c 4 m (sl3 3 i0) h nilS 0) ⟨5,xb 4 kind a1 a2 s1 s2 p::(3,.cells ls 1)::abD n c c1 c2 r++[(0,.cells cs sz)]⟩
      (leaveE 2 (thenE (fun en H=>evTop (sqC limQ1 fi ge st ap sg si dv pr ov ng mu sc fn [(44,saysV (.complex .f64 z1 z2) gs)]) 60 (slimL siT [4,3,2,1,0] L) 1 89 (seqN 5 sqX) en H (leaveE 1 (thenE (fun en H=>evTop (sqC limQ1 fi ge st ap sg si dv pr ov ng mu sc fn [(44,saysV (.complex .f64 z1 z2) gs)]) 60 (slimL siT [4,3,2,1,0] L) 1 89 (seqN 3 sqA) en H (takeC soT [10,2,1] K)) (takeC soT [10,2,1] K)))) (leaveE 1 (thenE (fun en H=>evTop (sqC limQ1 fi ge st ap sg si dv pr ov ng mu sc fn [(44,saysV (.complex .f64 z1 z2) gs)]) 60 (slimL siT [4,3,2,1,0] L) 1 89 (seqN 3 sqA) en H (takeC soT [10,2,1] K)) (takeC soT [10,2,1] K))))))
     (fi R (IntKind.i64.wrap (h+1)) fun i=>K .normal (soE n c (sl3 3 i0) i) (abD n c c1 c2 r))
   else none
  else K (.exit 0) (soE n c (sl3 3 i0) h) (abD n c c1 c2 r):=by kernel_rfl
theorem rq_11:evTop (sqC limQ1 fi ge st ap sg si dv pr ov ng mu sc fn [(44,saysV (.complex .f64 z1 z2) gs)]) 60 L 1 89 (seqN 5 sqX) (siE n c 4 pw (sl3 3 i0) h (sl3 8 j) k) ⟨9,xb 4 xk x1 x2 y1 y2 xp::(3,.cells ls 1)::abD n c c1 c2 r++[(8,.cells os 1),(0,.cells cs sz)]⟩ (leaveE 1 (thenE (fun en H=>evTop (sqC limQ1 fi ge st ap sg si dv pr ov ng mu sc fn [(44,saysV (.complex .f64 z1 z2) gs)]) 60 L 1 89 (seqN 3 sqA) en H (takeC soT [10,2,1] K)) (takeC soT [10,2,1] K))) =
  bif xk == 2 then ov R y1 y2 fun u1 u2=>gs R [(sl3 8 j)] ⟨9,xb 4 xk x1 x2 y1 y2 xp::(3,.cells ls 1)::abD n c c1 c2 r++[(8,.cells os 1),(0,.cells cs sz)]⟩ (mu R u1 u2 z1 z2 fun q1 q2=>ap R 82 ls i0 i0 [.complex .f64 q1 q2] 0 1 fun ls=>fi R (IntKind.i64.wrap (h+1)) fun i=>K .normal (soE n c (sl3 10 (i0+1)) i) ((10,.cells ls 1)::abD n c c1 c2 r))
  else ng R y1 y2 fun u1 u2=>gs R [(sl3 8 j)] ⟨9,xb 4 xk x1 x2 y1 y2 xp::(3,.cells ls 1)::abD n c c1 c2 r++[(8,.cells os 1),(0,.cells cs sz)]⟩ (mu R u1 u2 z1 z2 fun v1 v2=>fi R (IntKind.i64.wrap (pw-1)) fun m=>pr R 1 m fun w=>bindF (fbF .quo 4607182418800017408 w) fun w=>sc R v1 v2 w fun q1 q2=>ap R 82 ls i0 i0 [.complex .f64 q1 q2] 0 1 fun ls=>fi R (IntKind.i64.wrap (h+1)) fun i=>K .normal (soE n c (sl3 10 (i0+1)) i) ((10,.cells ls 1)::abD n c c1 c2 r)):=by kernel_rfl
end
noncomputable def sqR (lim:Nat→Bool) (gl:List (Nat×HSum)):Cx:=sqC lim fiReal rEl rSt (rAp Tryz.prog) sgK (siC (outC subK lengthK)) dvK prodK reH negK mulK sclK FiniteK gl
theorem sqR_ok (lim:Nat→Bool) {gl:List (Nat×HSum)} (hg:GsOk Tryz.prog gl):(sqR lim gl).Ok:=
 cxM_ok no_meth (.cons k40g h40g (.cons k195 h195 (.cons k42d h42d (.cons k46p h46p (.cons k111 h111 (.cons k86 h86 (.cons k22 h22 (.cons k39 h39 (.cons k93 h93 .nil))))))))) no_ext hg .nil (mmOf_ok lds1)
theorem sqB_loops:loopsIn sqB=[]:=by kernel_rfl
structure SqD where
 wi:El→Bool
 pw:El→Int
 dv:El→El→Nat×Nat
 qv:El→Nat×Nat
 f:El→Nat→Nat×Nat
namespace SqD
variable (D:SqD)
def oZ (x:El) (xs:List El) (k:Nat):List (Nat×Nat):=((xs.take k).filter fun y=>!D.wi y).map (D.dv x)
def lZ (xs:List El) (k:Nat):List (Nat×Nat):=((xs.take k).filter D.wi).map D.qv
theorem oZ_step {x:El} {xs:List El} {k:Nat} {y:El} (hk:xs[k]?=some y):D.oZ x xs (k+1)=bif D.wi y then D.oZ x xs k else D.oZ x xs k++[D.dv x y]:=by
 unfold oZ
 rw[List.take_add_one,hk,List.filter_append,List.map_append]
 cases h:D.wi y with
 |true=>simp[h]
 |false=>simp[h]
theorem lZ_step {xs:List El} {k:Nat} {y:El} (hk:xs[k]?=some y):D.lZ xs (k+1)=bif D.wi y then D.lZ xs k++[D.qv y] else D.lZ xs k:=by
 unfold lZ
 rw[List.take_add_one,hk,List.filter_append,List.map_append]
 cases h:D.wi y with
 |true=>simp[h]
 |false=>simp[h]
theorem oZ_len {x:El} {xs:List El} (k:Nat):(D.oZ x xs k).length≤k:=by
 unfold oZ
 rw[List.length_map]
 have:=List.length_filter_le (fun y=>!D.wi y) (xs.take k)
 rw[List.length_take]at this
 omega
theorem lZ_len {xs:List El} (k:Nat):(D.lZ xs k).length≤k:=by
 unfold lZ
 rw[List.length_map]
 have:=List.length_filter_le D.wi (xs.take k)
 rw[List.length_take]at this
 omega
end SqD
def WiOk (c1 c2 r:Nat) (b:Bool) (x:El):Prop:=∀(R:Type) (yes no:Option R),wiX sgK (siC (outC subK lengthK)) x.kind x.a1 x.a2 x.s1 x.s2 x.p c1 c2 r yes no=bif b then yes else no
def DvOk (x:El) (pw:Int) (y:El) (v:Nat×Nat):Prop:=∀(R:Type) (k:Nat→Nat→Option R),dvK R y.kind y.a1 y.a2 y.s1 y.s2 y.p x.a1 x.a2 pw k=k v.1 v.2
def QvOk (x:El) (pw:Int) (z q:Nat×Nat):Prop:=∀(R:Type) (k:Nat→Nat→Option R),
 (bif x.kind == 2 then reH R x.s1 x.s2 fun u1 u2=>mulK R u1 u2 z.1 z.2 k
  else negK R x.s1 x.s2 fun u1 u2=>mulK R u1 u2 z.1 z.2 fun v1 v2=>prodK R 1 (pw-1) fun w=>bindF (fbF .quo 4607182418800017408 w) fun w=>sclK R v1 v2 w k)=k q.1 q.2
structure SqOk (D:SqD) (c1 c2 r:Nat) (xs:List El):Prop where
 wi:∀ x∈xs,WiOk c1 c2 r (D.wi x) x
 pw:∀ x∈xs,D.wi x=true→floatToIntVal .f64 x.p .i64=some (D.pw x)∧0≤D.pw x∧D.pw x≤1000
 dv:∀ x∈xs,D.wi x=true→∀ y∈xs,D.wi y=false→DvOk x (D.pw x) y (D.dv x y)
 f:∀ x∈xs,D.wi x=true→SumT (D.oZ x xs xs.length) (D.f x)
 qv:∀ x∈xs,D.wi x=true→QvOk x (D.pw x) (D.f x (D.oZ x xs xs.length).length) (D.qv x)
def oSq (ob:Nat) (zs:List (Nat×Nat)):Value:=match zs with | []=>nilS|_::_=>sl3 ob zs.length
abbrev xg (x:El) (n c c1 c2 r:Nat):Objs:=xb 3 x.kind x.a1 x.a2 x.s1 x.s2 x.p::abD n c c1 c2 r
abbrev xf (x:El) (lz:List (Nat×Nat)) (n c c1 c2 r:Nat):Objs:=xb 4 x.kind x.a1 x.a2 x.s1 x.s2 x.p::(3,.cells (cxCells lz) 1)::abD n c c1 c2 r
def oHq (nx ob:Nat) (D:Objs) (cs:List Value) (sz:Nat) (zs:List (Nat×Nat)):AH:=match zs with | []=>⟨nx,D++[(0,.cells cs sz)]⟩|_::_=>⟨ob+1,D++[(ob,.cells (cxCells zs) 1),(0,.cells cs sz)]⟩
def lHq (n c c1 c2 r:Nat) (cs:List Value) (sz:Nat) (zs:List (Nat×Nat)):AH:=match zs with | []=>⟨3,abD n c c1 c2 r++[(0,.cells cs sz)]⟩|_::_=>⟨4,(3,.cells (cxCells zs) 1)::abD n c c1 c2 r++[(0,.cells cs sz)]⟩
section
variable {cs:List Value} {sz c c1 c2 r:Nat} {xs:List El} {D:SqD}
theorem o_sum0 {zs:List (Nat×Nat)} {f:Nat→Nat×Nat} {D:Objs} (hf:SumT zs f) (hn:zs.length<900000):FlatCall Tryz.prog 44 [oSq 7 zs] (oHq 4 7 D cs sz zs) (.complex .f64 (f zs.length).1 (f zs.length).2):=by
 cases zs with
 |nil=>
  show FlatCall Tryz.prog 44 [nilS] _ (.complex .f64 (f 0).1 (f 0).2)
  rw[hf.zero]
  exact sum_none
 |cons z zs=>exact FlatCall.one (b:=7) (sum_call (sz:=1) (c:=(z::zs).length) (cxAt_cells (z::zs)) hn hf) (cx_flat _) (by show _∈D++[_,_];simp) rfl
theorem in_step0 (x:El) (pw:Int) (h:Nat) (hx:ElsAt cs 0 xs) (hn:xs.length<900000) {k:Nat} {y:El} (hk:xs[k]?=some y) (hw:WiOk c1 c2 r (D.wi y) y) (hd:D.wi y=false→DvOk x pw y (D.dv x y)):
  BaseOk Tryz.prog 1 89 ⟨4,(xg x xs.length c c1 c2 r)++[(0,.cells cs sz)]⟩ (siE xs.length c 3 pw nilS h (oSq 7 (D.oZ x xs k)) k) (oHq 4 7 (xg x xs.length c c1 c2 r) cs sz (D.oZ x xs k)) .normal
   (siE xs.length c 3 pw nilS h (oSq 7 (D.oZ x xs (k+1))) (k+1:Nat)) (oHq 4 7 (xg x xs.length c c1 c2 r) cs sz (D.oZ x xs (k+1))) (fun Q a w=>sqB.wp Tryz.prog Q a w):=by
 have hkn:=(List.getElem?_eq_some_iff.1 hk).1; have hl:=D.oZ_len (x:=x) (xs:=xs) k
 rw[D.oZ_step hk]
 generalize D.oZ x xs k=js at hl; have hg:=fun(R:Type) (K:Int→Nat→Nat→Nat→Nat→Nat→Option R)=>rEl_at hx hk R K
 cases js with
 |nil=>
  cases hb:D.wi y with
  |true=>
   show BaseOk Tryz.prog 1 89 _ (siE xs.length c 3 pw nilS h nilS k) ⟨4,(xg x xs.length c c1 c2 r)++[(0,.cells cs sz)]⟩ _ (siE xs.length c 3 pw nilS h nilS (k+1:Nat)) ⟨4,(xg x xs.length c c1 c2 r)++[(0,.cells cs sz)]⟩ _; exact round_told (C:=sqR limQ0 []) (H0:=⟨4,(xg x xs.length c c1 c2 r)++[(0,.cells cs sz)]⟩) (e:=(siE xs.length c 3 pw nilS h nilS k)) (H:=⟨4,(xg x xs.length c c1 c2 r)++[(0,.cells cs sz)]⟩) (n:=60) (ts:=siT) (bo:=[3,2,1,6]) (bs:=[])
    (A:=(xg x xs.length c c1 c2 r)) (B:=[(0,.cells cs sz)]) (D:=(xg x xs.length c c1 c2 r)) (e1:=(siE xs.length c 3 pw nilS h nilS (k+1:Nat))) (O1:=(xg x xs.length c c1 c2 r)) (sqR_ok _ .nil) zm_ok sqB_loops
    (by
      unfold sqR
      refine(j_nil0 ..).trans ?_
      rw[decide_eq_true (show (k:Int)<xs.length by omega),cond_true,idx_ok,cond_true,hg,hw,hb,cond_true,fiReal_fair,wrap_up (by omega)]) rfl
    (by
      simp only[xb,abD,List.cons_append,List.nil_append,renOs,renO,renL,renV]
      rfl) rfl rfl rfl rfl rfl
  |false=>
   have hd:=hd hb; show BaseOk Tryz.prog 1 89 _ (siE xs.length c 3 pw nilS h nilS k) ⟨4,(xg x xs.length c c1 c2 r)++[(0,.cells cs sz)]⟩ _ (siE xs.length c 3 pw nilS h (sl3 7 1) (k+1:Nat)) ⟨8,(xg x xs.length c c1 c2 r)++[(7,.cells [.complex .f64 (D.dv x y).1 (D.dv x y).2] 1),(0,.cells cs sz)]⟩ _; exact round_told (C:=sqR limQ0 []) (H0:=⟨4,(xg x xs.length c c1 c2 r)++[(0,.cells cs sz)]⟩) (e:=(siE xs.length c 3 pw nilS h nilS k)) (H:=⟨4,(xg x xs.length c c1 c2 r)++[(0,.cells cs sz)]⟩) (n:=60) (ts:=siT) (bo:=[3,2,1,6]) (bs:=[7,8,9,6])
    (A:=(xg x xs.length c c1 c2 r)++[(7,.cells [.complex .f64 (D.dv x y).1 (D.dv x y).2] 1)]) (B:=[(0,.cells cs sz)]) (D:=(xg x xs.length c c1 c2 r)) (e1:=(siE xs.length c 3 pw nilS h (sl3 6 1) (k+1:Nat))) (O1:=(xg x xs.length c c1 c2 r)++[(6,.cells [.complex .f64 (D.dv x y).1 (D.dv x y).2] 1)]) (sqR_ok _ .nil) zm_ok sqB_loops
    (by
      unfold sqR
      refine(j_nil0 ..).trans ?_
      rw[decide_eq_true (show (k:Int)<xs.length by omega),cond_true,idx_ok,cond_true,hg,hw,hb,cond_false,hd,fiReal_fair,wrap_up (by omega)]) rfl
    (by
      simp only[xb,abD,List.cons_append,List.nil_append,renOs,renO,renL,renV]
      rfl) rfl rfl rfl rfl rfl
 |cons j0 js=>
  have hl':(j0::js).length<900000:=by omega
  cases hb:D.wi y with
  |true=>
   show BaseOk Tryz.prog 1 89 _ (siE xs.length c 3 pw nilS h (sl3 7 (j0::js).length) k) ⟨8,(xg x xs.length c c1 c2 r)++[(7,.cells (cxCells (j0::js)) 1),(0,.cells cs sz)]⟩ _ (siE xs.length c 3 pw nilS h (sl3 7 (j0::js).length) (k+1:Nat)) ⟨8,(xg x xs.length c c1 c2 r)++[(7,.cells (cxCells (j0::js)) 1),(0,.cells cs sz)]⟩ _; exact round_told (C:=sqR limQ0 []) (H0:=⟨4,(xg x xs.length c c1 c2 r)++[(0,.cells cs sz)]⟩) (e:=(siE xs.length c 3 pw nilS h (sl3 7 (j0::js).length) k)) (H:=⟨8,(xg x xs.length c c1 c2 r)++[(7,.cells (cxCells (j0::js)) 1),(0,.cells cs sz)]⟩) (n:=60) (ts:=siT) (bo:=[3,2,1,7]) (bs:=[4,5,6,7])
    (A:=(xg x xs.length c c1 c2 r)++[(7,.cells (cxCells (j0::js)) 1)]) (B:=[(0,.cells cs sz)]) (D:=(xg x xs.length c c1 c2 r)) (e1:=(siE xs.length c 3 pw nilS h (sl3 7 (j0::js).length) (k+1:Nat))) (O1:=(xg x xs.length c c1 c2 r)++[(7,.cells (cxCells (j0::js)) 1)]) (sqR_ok _ .nil) zm_ok sqB_loops
    (by
      unfold sqR
      refine(j_keep0 ..).trans ?_
      rw[decide_eq_true (show (k:Int)<xs.length by omega),cond_true,idx_ok,cond_true,hg,hw,hb,cond_true,fiReal_fair,wrap_up (by omega)]) rfl
    (by
      simp only[xb,abD,List.cons_append,List.nil_append,renOs,renO,renL,renV]
      rw[rens_flat (cx_flat (j0::js))]
      rfl) rfl rfl rfl rfl rfl
  |false=>
   have hd:=hd hb; show BaseOk Tryz.prog 1 89 _ (siE xs.length c 3 pw nilS h (sl3 7 (j0::js).length) k) ⟨8,(xg x xs.length c c1 c2 r)++[(7,.cells (cxCells (j0::js)) 1),(0,.cells cs sz)]⟩ _ (siE xs.length c 3 pw nilS h (sl3 7 ((j0::js)++[D.dv x y]).length) (k+1:Nat)) ⟨8,(xg x xs.length c c1 c2 r)++[(7,.cells (cxCells ((j0::js)++[D.dv x y])) 1),(0,.cells cs sz)]⟩ _
   rw[cx_app,List.length_append]
   have hf:inns 0 (cxCells (j0::js)++cxCells [D.dv x y])=true:=inns_app (cx_flat _) (cx_flat _); exact round_told (C:=sqR limQ0 []) (H0:=⟨4,(xg x xs.length c c1 c2 r)++[(0,.cells cs sz)]⟩) (e:=(siE xs.length c 3 pw nilS h (sl3 7 (j0::js).length) k)) (H:=⟨8,(xg x xs.length c c1 c2 r)++[(7,.cells (cxCells (j0::js)) 1),(0,.cells cs sz)]⟩) (n:=60) (ts:=siT) (bo:=[3,2,1,10]) (bs:=[11,12,13,10])
    (A:=(xg x xs.length c c1 c2 r)++[(7,.cells (cxCells (j0::js)++cxCells [D.dv x y]) 1)]) (B:=[(0,.cells cs sz)]) (D:=(xg x xs.length c c1 c2 r)) (e1:=(siE xs.length c 3 pw nilS h (sl3 10 ((j0::js).length+1)) (k+1:Nat))) (O1:=(xg x xs.length c c1 c2 r)++[(10,.cells (cxCells (j0::js)++cxCells [D.dv x y]) 1)]) (sqR_ok _ .nil) zm_ok sqB_loops
    (by
      unfold sqR
      refine(j_some0 ..).trans ?_
      rw[decide_eq_true (show (k:Int)<xs.length by omega),cond_true,idx_ok,cond_true,hg,hw,hb,cond_false,hd,ap78_one (cx_len _) (by omega),fiReal_fair,wrap_up (by omega)]
      rfl) rfl
    (by
      simp only[xb,abD,List.cons_append,List.nil_append,renOs,renO,renL,renV]
      rw[rens_flat hf]
      rfl) rfl rfl rfl rfl rfl
theorem in_last0 (x:El) (pw:Int) (h n:Nat) (js:List (Nat×Nat)):
  BaseOk Tryz.prog 1 89 ⟨4,(xg x n c c1 c2 r)++[(0,.cells cs sz)]⟩ (siE n c 3 pw nilS h (oSq 7 js) n) (oHq 4 7 (xg x n c c1 c2 r) cs sz js) (.exit 2) (siE n c 3 pw nilS h (oSq 7 js) n) (oHq 4 7 (xg x n c c1 c2 r) cs sz js) (fun Q a w=>sqB.wp Tryz.prog Q a w):=by
 cases js with
 |nil=>
  exact round_told (C:=sqR limQ0 []) (H0:=⟨4,(xg x n c c1 c2 r)++[(0,.cells cs sz)]⟩) (e:=(siE n c 3 pw nilS h nilS n)) (H:=⟨4,(xg x n c c1 c2 r)++[(0,.cells cs sz)]⟩) (n:=60) (ts:=siT) (bo:=[3,2,1,6]) (bs:=[])
    (A:=(xg x n c c1 c2 r)) (B:=[(0,.cells cs sz)]) (D:=(xg x n c c1 c2 r)) (e1:=(siE n c 3 pw nilS h nilS n)) (O1:=(xg x n c c1 c2 r)) (sqR_ok _ .nil) zm_ok sqB_loops
    (by
      unfold sqR
      refine(j_nil0 ..).trans ?_
      rw[decide_eq_false (by omega)];rfl) rfl
    (by
      simp only[xb,abD,List.cons_append,List.nil_append,renOs,renO,renL,renV]
      rfl) rfl rfl rfl rfl rfl
 |cons j0 js=>
  exact round_told (C:=sqR limQ0 []) (H0:=⟨4,(xg x n c c1 c2 r)++[(0,.cells cs sz)]⟩) (e:=(siE n c 3 pw nilS h (sl3 7 (j0::js).length) n)) (H:=⟨8,(xg x n c c1 c2 r)++[(7,.cells (cxCells (j0::js)) 1),(0,.cells cs sz)]⟩) (n:=60) (ts:=siT) (bo:=[3,2,1,7]) (bs:=[4,5,6,7])
    (A:=(xg x n c c1 c2 r)++[(7,.cells (cxCells (j0::js)) 1)]) (B:=[(0,.cells cs sz)]) (D:=(xg x n c c1 c2 r)) (e1:=(siE n c 3 pw nilS h (sl3 7 (j0::js).length) n)) (O1:=(xg x n c c1 c2 r)++[(7,.cells (cxCells (j0::js)) 1)]) (sqR_ok _ .nil) zm_ok sqB_loops
    (by
      unfold sqR
      refine(j_keep0 ..).trans ?_
      rw[decide_eq_false (by omega)];rfl) rfl
    (by
      simp only[xb,abD,List.cons_append,List.nil_append,renOs,renO,renL,renV]
      rw[rens_flat (cx_flat (j0::js))]
      rfl) rfl rfl rfl rfl rfl
theorem in_loop0 (x:El) (pw:Int) (h:Nat) (hx:ElsAt cs 0 xs) (hn:xs.length<900000) (hw:∀ y∈xs,WiOk c1 c2 r (D.wi y) y) (hd:∀ y∈xs,D.wi y=false→DvOk x pw y (D.dv x y)):
  CodeOk Tryz.prog 1 89 (siE xs.length c 3 pw nilS h nilS (0:Nat)) ⟨4,(xg x xs.length c c1 c2 r)++[(0,.cells cs sz)]⟩ (.exit 2) (siE xs.length c 3 pw nilS h (oSq 7 (D.oZ x xs xs.length)) xs.length) (oHq 4 7 (xg x xs.length c c1 c2 r) cs sz (D.oZ x xs xs.length)) (fun Q act w=>Code.wp Tryz.prog (.loop sqB) Q act w):=by
 have hB:BaseRounds Tryz.prog 1 89 ⟨4,(xg x xs.length c c1 c2 r)++[(0,.cells cs sz)]⟩ sqB (siE xs.length c 3 pw nilS h nilS (0:Nat)) ⟨4,(xg x xs.length c c1 c2 r)++[(0,.cells cs sz)]⟩ (.exit 2) (siE xs.length c 3 pw nilS h (oSq 7 (D.oZ x xs xs.length)) xs.length) (oHq 4 7 (xg x xs.length c c1 c2 r) cs sz (D.oZ x xs xs.length)):=
  base_count (P:=Tryz.prog) (lo:=1) (sz:=89) (a:=sqB) (H0:=⟨4,(xg x xs.length c c1 c2 r)++[(0,.cells cs sz)]⟩) (E:=fun k:Nat=>(siE xs.length c 3 pw nilS h (oSq 7 (D.oZ x xs k)) k)) (H:=fun k=>oHq 4 7 (xg x xs.length c c1 c2 r) cs sz (D.oZ x xs k)) (ex:=.exit 2)
   (e':=(siE xs.length c 3 pw nilS h (oSq 7 (D.oZ x xs xs.length)) xs.length)) (H':=oHq 4 7 (xg x xs.length c c1 c2 r) cs sz (D.oZ x xs xs.length)) xs.length 0 (fun k _ hk=>by
    have hk':=List.getElem?_eq_getElem (show k<xs.length by omega); exact in_step0 x pw h hx hn hk' (hw _ (List.getElem_mem _)) (hd _ (List.getElem_mem _))) (base_end (by intro h;cases h) (by simp only[Nat.zero_add];exact in_last0 x pw h xs.length _))
 exact @base_loop _ _ _ _ _ _ _ _ _ hB
theorem o_sum1 {zs:List (Nat×Nat)} {f:Nat→Nat×Nat} {D:Objs} (hf:SumT zs f) (hn:zs.length<900000):FlatCall Tryz.prog 44 [oSq 8 zs] (oHq 5 8 D cs sz zs) (.complex .f64 (f zs.length).1 (f zs.length).2):=by
 cases zs with
 |nil=>
  show FlatCall Tryz.prog 44 [nilS] _ (.complex .f64 (f 0).1 (f 0).2)
  rw[hf.zero]
  exact sum_none
 |cons z zs=>exact FlatCall.one (b:=8) (sum_call (sz:=1) (c:=(z::zs).length) (cxAt_cells (z::zs)) hn hf) (cx_flat _) (by show _∈D++[_,_];simp) rfl
theorem in_step1 (x:El) (pw:Int) (h:Nat) (lz:List (Nat×Nat)) (i0:Nat) (hx:ElsAt cs 0 xs) (hn:xs.length<900000) {k:Nat} {y:El} (hk:xs[k]?=some y) (hw:WiOk c1 c2 r (D.wi y) y) (hd:D.wi y=false→DvOk x pw y (D.dv x y)):
  BaseOk Tryz.prog 1 89 ⟨5,(xf x lz xs.length c c1 c2 r)++[(0,.cells cs sz)]⟩ (siE xs.length c 4 pw (sl3 3 i0) h (oSq 8 (D.oZ x xs k)) k) (oHq 5 8 (xf x lz xs.length c c1 c2 r) cs sz (D.oZ x xs k)) .normal
   (siE xs.length c 4 pw (sl3 3 i0) h (oSq 8 (D.oZ x xs (k+1))) (k+1:Nat)) (oHq 5 8 (xf x lz xs.length c c1 c2 r) cs sz (D.oZ x xs (k+1))) (fun Q a w=>sqB.wp Tryz.prog Q a w):=by
 have hkn:=(List.getElem?_eq_some_iff.1 hk).1; have hl:=D.oZ_len (x:=x) (xs:=xs) k
 rw[D.oZ_step hk]
 generalize D.oZ x xs k=js at hl; have hg:=fun(R:Type) (K:Int→Nat→Nat→Nat→Nat→Nat→Option R)=>rEl_at hx hk R K
 cases js with
 |nil=>
  cases hb:D.wi y with
  |true=>
   show BaseOk Tryz.prog 1 89 _ (siE xs.length c 4 pw (sl3 3 i0) h nilS k) ⟨5,(xf x lz xs.length c c1 c2 r)++[(0,.cells cs sz)]⟩ _ (siE xs.length c 4 pw (sl3 3 i0) h nilS (k+1:Nat)) ⟨5,(xf x lz xs.length c c1 c2 r)++[(0,.cells cs sz)]⟩ _; exact round_told (C:=sqR limQ1 []) (H0:=⟨5,(xf x lz xs.length c c1 c2 r)++[(0,.cells cs sz)]⟩) (e:=(siE xs.length c 4 pw (sl3 3 i0) h nilS k)) (H:=⟨5,(xf x lz xs.length c c1 c2 r)++[(0,.cells cs sz)]⟩) (n:=60) (ts:=siT) (bo:=[4,3,2,1,7]) (bs:=[])
    (A:=(xf x lz xs.length c c1 c2 r)) (B:=[(0,.cells cs sz)]) (D:=(xf x lz xs.length c c1 c2 r)) (e1:=(siE xs.length c 4 pw (sl3 3 i0) h nilS (k+1:Nat))) (O1:=(xf x lz xs.length c c1 c2 r)) (sqR_ok _ .nil) zm_ok sqB_loops
    (by
      unfold sqR
      refine(j_nil1 ..).trans ?_
      rw[decide_eq_true (show (k:Int)<xs.length by omega),cond_true,idx_ok,cond_true,hg,hw,hb,cond_true,fiReal_fair,wrap_up (by omega)]) rfl
    (by
      simp only[xb,abD,List.cons_append,List.nil_append,renOs,renO,renL,renV]
      rw[rens_flat (cx_flat lz)]
      rfl) rfl rfl rfl rfl rfl
  |false=>
   have hd:=hd hb; show BaseOk Tryz.prog 1 89 _ (siE xs.length c 4 pw (sl3 3 i0) h nilS k) ⟨5,(xf x lz xs.length c c1 c2 r)++[(0,.cells cs sz)]⟩ _ (siE xs.length c 4 pw (sl3 3 i0) h (sl3 8 1) (k+1:Nat)) ⟨9,(xf x lz xs.length c c1 c2 r)++[(8,.cells [.complex .f64 (D.dv x y).1 (D.dv x y).2] 1),(0,.cells cs sz)]⟩ _; exact round_told (C:=sqR limQ1 []) (H0:=⟨5,(xf x lz xs.length c c1 c2 r)++[(0,.cells cs sz)]⟩) (e:=(siE xs.length c 4 pw (sl3 3 i0) h nilS k)) (H:=⟨5,(xf x lz xs.length c c1 c2 r)++[(0,.cells cs sz)]⟩) (n:=60) (ts:=siT) (bo:=[4,3,2,1,7]) (bs:=[8,9,10,7])
    (A:=(xf x lz xs.length c c1 c2 r)++[(8,.cells [.complex .f64 (D.dv x y).1 (D.dv x y).2] 1)]) (B:=[(0,.cells cs sz)]) (D:=(xf x lz xs.length c c1 c2 r)) (e1:=(siE xs.length c 4 pw (sl3 3 i0) h (sl3 7 1) (k+1:Nat))) (O1:=(xf x lz xs.length c c1 c2 r)++[(7,.cells [.complex .f64 (D.dv x y).1 (D.dv x y).2] 1)]) (sqR_ok _ .nil) zm_ok sqB_loops
    (by
      unfold sqR
      refine(j_nil1 ..).trans ?_
      rw[decide_eq_true (show (k:Int)<xs.length by omega),cond_true,idx_ok,cond_true,hg,hw,hb,cond_false,hd,fiReal_fair,wrap_up (by omega)]) rfl
    (by
      simp only[xb,abD,List.cons_append,List.nil_append,renOs,renO,renL,renV]
      rw[rens_flat (cx_flat lz)]
      rfl) rfl rfl rfl rfl rfl
 |cons j0 js=>
  have hl':(j0::js).length<900000:=by omega
  cases hb:D.wi y with
  |true=>
   show BaseOk Tryz.prog 1 89 _ (siE xs.length c 4 pw (sl3 3 i0) h (sl3 8 (j0::js).length) k) ⟨9,(xf x lz xs.length c c1 c2 r)++[(8,.cells (cxCells (j0::js)) 1),(0,.cells cs sz)]⟩ _ (siE xs.length c 4 pw (sl3 3 i0) h (sl3 8 (j0::js).length) (k+1:Nat)) ⟨9,(xf x lz xs.length c c1 c2 r)++[(8,.cells (cxCells (j0::js)) 1),(0,.cells cs sz)]⟩ _; exact round_told (C:=sqR limQ1 []) (H0:=⟨5,(xf x lz xs.length c c1 c2 r)++[(0,.cells cs sz)]⟩) (e:=(siE xs.length c 4 pw (sl3 3 i0) h (sl3 8 (j0::js).length) k)) (H:=⟨9,(xf x lz xs.length c c1 c2 r)++[(8,.cells (cxCells (j0::js)) 1),(0,.cells cs sz)]⟩) (n:=60) (ts:=siT) (bo:=[4,3,2,1,8]) (bs:=[5,6,7,8])
    (A:=(xf x lz xs.length c c1 c2 r)++[(8,.cells (cxCells (j0::js)) 1)]) (B:=[(0,.cells cs sz)]) (D:=(xf x lz xs.length c c1 c2 r)) (e1:=(siE xs.length c 4 pw (sl3 3 i0) h (sl3 8 (j0::js).length) (k+1:Nat))) (O1:=(xf x lz xs.length c c1 c2 r)++[(8,.cells (cxCells (j0::js)) 1)]) (sqR_ok _ .nil) zm_ok sqB_loops
    (by
      unfold sqR
      refine(j_keep1 ..).trans ?_
      rw[decide_eq_true (show (k:Int)<xs.length by omega),cond_true,idx_ok,cond_true,hg,hw,hb,cond_true,fiReal_fair,wrap_up (by omega)]) rfl
    (by
      simp only[xb,abD,List.cons_append,List.nil_append,renOs,renO,renL,renV]
      rw[rens_flat (cx_flat lz)]
      rw[rens_flat (cx_flat (j0::js))]
      rfl) rfl rfl rfl rfl rfl
  |false=>
   have hd:=hd hb; show BaseOk Tryz.prog 1 89 _ (siE xs.length c 4 pw (sl3 3 i0) h (sl3 8 (j0::js).length) k) ⟨9,(xf x lz xs.length c c1 c2 r)++[(8,.cells (cxCells (j0::js)) 1),(0,.cells cs sz)]⟩ _ (siE xs.length c 4 pw (sl3 3 i0) h (sl3 8 ((j0::js)++[D.dv x y]).length) (k+1:Nat)) ⟨9,(xf x lz xs.length c c1 c2 r)++[(8,.cells (cxCells ((j0::js)++[D.dv x y])) 1),(0,.cells cs sz)]⟩ _
   rw[cx_app,List.length_append]
   have hf:inns 0 (cxCells (j0::js)++cxCells [D.dv x y])=true:=inns_app (cx_flat _) (cx_flat _); exact round_told (C:=sqR limQ1 []) (H0:=⟨5,(xf x lz xs.length c c1 c2 r)++[(0,.cells cs sz)]⟩) (e:=(siE xs.length c 4 pw (sl3 3 i0) h (sl3 8 (j0::js).length) k)) (H:=⟨9,(xf x lz xs.length c c1 c2 r)++[(8,.cells (cxCells (j0::js)) 1),(0,.cells cs sz)]⟩) (n:=60) (ts:=siT) (bo:=[4,3,2,1,11]) (bs:=[12,13,14,11])
    (A:=(xf x lz xs.length c c1 c2 r)++[(8,.cells (cxCells (j0::js)++cxCells [D.dv x y]) 1)]) (B:=[(0,.cells cs sz)]) (D:=(xf x lz xs.length c c1 c2 r)) (e1:=(siE xs.length c 4 pw (sl3 3 i0) h (sl3 11 ((j0::js).length+1)) (k+1:Nat))) (O1:=(xf x lz xs.length c c1 c2 r)++[(11,.cells (cxCells (j0::js)++cxCells [D.dv x y]) 1)]) (sqR_ok _ .nil) zm_ok sqB_loops
    (by
      unfold sqR
      refine(j_some1 ..).trans ?_
      rw[decide_eq_true (show (k:Int)<xs.length by omega),cond_true,idx_ok,cond_true,hg,hw,hb,cond_false,hd,ap78_one (cx_len _) (by omega),fiReal_fair,wrap_up (by omega)]
      rfl) rfl
    (by
      simp only[xb,abD,List.cons_append,List.nil_append,renOs,renO,renL,renV]
      rw[rens_flat (cx_flat lz)]
      rw[rens_flat hf]
      rfl) rfl rfl rfl rfl rfl
theorem in_last1 (x:El) (pw:Int) (h n:Nat) (lz:List (Nat×Nat)) (i0:Nat) (js:List (Nat×Nat)):
  BaseOk Tryz.prog 1 89 ⟨5,(xf x lz n c c1 c2 r)++[(0,.cells cs sz)]⟩ (siE n c 4 pw (sl3 3 i0) h (oSq 8 js) n) (oHq 5 8 (xf x lz n c c1 c2 r) cs sz js) (.exit 2) (siE n c 4 pw (sl3 3 i0) h (oSq 8 js) n) (oHq 5 8 (xf x lz n c c1 c2 r) cs sz js) (fun Q a w=>sqB.wp Tryz.prog Q a w):=by
 cases js with
 |nil=>
  exact round_told (C:=sqR limQ1 []) (H0:=⟨5,(xf x lz n c c1 c2 r)++[(0,.cells cs sz)]⟩) (e:=(siE n c 4 pw (sl3 3 i0) h nilS n)) (H:=⟨5,(xf x lz n c c1 c2 r)++[(0,.cells cs sz)]⟩) (n:=60) (ts:=siT) (bo:=[4,3,2,1,7]) (bs:=[])
    (A:=(xf x lz n c c1 c2 r)) (B:=[(0,.cells cs sz)]) (D:=(xf x lz n c c1 c2 r)) (e1:=(siE n c 4 pw (sl3 3 i0) h nilS n)) (O1:=(xf x lz n c c1 c2 r)) (sqR_ok _ .nil) zm_ok sqB_loops
    (by
      unfold sqR
      refine(j_nil1 ..).trans ?_
      rw[decide_eq_false (by omega)];rfl) rfl
    (by
      simp only[xb,abD,List.cons_append,List.nil_append,renOs,renO,renL,renV]
      rw[rens_flat (cx_flat lz)]
      rfl) rfl rfl rfl rfl rfl
 |cons j0 js=>
  exact round_told (C:=sqR limQ1 []) (H0:=⟨5,(xf x lz n c c1 c2 r)++[(0,.cells cs sz)]⟩) (e:=(siE n c 4 pw (sl3 3 i0) h (sl3 8 (j0::js).length) n)) (H:=⟨9,(xf x lz n c c1 c2 r)++[(8,.cells (cxCells (j0::js)) 1),(0,.cells cs sz)]⟩) (n:=60) (ts:=siT) (bo:=[4,3,2,1,8]) (bs:=[5,6,7,8])
    (A:=(xf x lz n c c1 c2 r)++[(8,.cells (cxCells (j0::js)) 1)]) (B:=[(0,.cells cs sz)]) (D:=(xf x lz n c c1 c2 r)) (e1:=(siE n c 4 pw (sl3 3 i0) h (sl3 8 (j0::js).length) n)) (O1:=(xf x lz n c c1 c2 r)++[(8,.cells (cxCells (j0::js)) 1)]) (sqR_ok _ .nil) zm_ok sqB_loops
    (by
      unfold sqR
      refine(j_keep1 ..).trans ?_
      rw[decide_eq_false (by omega)];rfl) rfl
    (by
      simp only[xb,abD,List.cons_append,List.nil_append,renOs,renO,renL,renV]
      rw[rens_flat (cx_flat lz)]
      rw[rens_flat (cx_flat (j0::js))]
      rfl) rfl rfl rfl rfl rfl
theorem in_loop1 (x:El) (pw:Int) (h:Nat) (lz:List (Nat×Nat)) (i0:Nat) (hx:ElsAt cs 0 xs) (hn:xs.length<900000) (hw:∀ y∈xs,WiOk c1 c2 r (D.wi y) y) (hd:∀ y∈xs,D.wi y=false→DvOk x pw y (D.dv x y)):
  CodeOk Tryz.prog 1 89 (siE xs.length c 4 pw (sl3 3 i0) h nilS (0:Nat)) ⟨5,(xf x lz xs.length c c1 c2 r)++[(0,.cells cs sz)]⟩ (.exit 2) (siE xs.length c 4 pw (sl3 3 i0) h (oSq 8 (D.oZ x xs xs.length)) xs.length) (oHq 5 8 (xf x lz xs.length c c1 c2 r) cs sz (D.oZ x xs xs.length)) (fun Q act w=>Code.wp Tryz.prog (.loop sqB) Q act w):=by
 have hB:BaseRounds Tryz.prog 1 89 ⟨5,(xf x lz xs.length c c1 c2 r)++[(0,.cells cs sz)]⟩ sqB (siE xs.length c 4 pw (sl3 3 i0) h nilS (0:Nat)) ⟨5,(xf x lz xs.length c c1 c2 r)++[(0,.cells cs sz)]⟩ (.exit 2) (siE xs.length c 4 pw (sl3 3 i0) h (oSq 8 (D.oZ x xs xs.length)) xs.length) (oHq 5 8 (xf x lz xs.length c c1 c2 r) cs sz (D.oZ x xs xs.length)):=
  base_count (P:=Tryz.prog) (lo:=1) (sz:=89) (a:=sqB) (H0:=⟨5,(xf x lz xs.length c c1 c2 r)++[(0,.cells cs sz)]⟩) (E:=fun k:Nat=>(siE xs.length c 4 pw (sl3 3 i0) h (oSq 8 (D.oZ x xs k)) k)) (H:=fun k=>oHq 5 8 (xf x lz xs.length c c1 c2 r) cs sz (D.oZ x xs k)) (ex:=.exit 2)
   (e':=(siE xs.length c 4 pw (sl3 3 i0) h (oSq 8 (D.oZ x xs xs.length)) xs.length)) (H':=oHq 5 8 (xf x lz xs.length c c1 c2 r) cs sz (D.oZ x xs xs.length)) xs.length 0 (fun k _ hk=>by
    have hk':=List.getElem?_eq_getElem (show k<xs.length by omega); exact in_step1 x pw h lz i0 hx hn hk' (hw _ (List.getElem_mem _)) (hd _ (List.getElem_mem _))) (base_end (by intro h;cases h) (by simp only[Nat.zero_add];exact in_last1 x pw h xs.length lz i0 _))
 exact @base_loop _ _ _ _ _ _ _ _ _ hB
end
end Go.Vm
