/- A part; no conditions. -/
import Derived.Test.YtaogignikkjkjaaGreatVmKX
set_option maxRecDepth 1000000
set_option maxHeartbeats 1000000
set_option linter.all false
open Go.Proofs.Tryz renaming prog->P9
open Nat renaming beq->N9,le_refl->L9
open Go renaming Value->V9,Program->Q9,TypeId->I9,floatOfInt->U9
namespace Go.Vm
open Go.Proofs
theorem bPr(tr:KFF)(R:Type) p (k:KVO R):fC (cxf aG P9 [] [(128,sFF tr)]) 60 114 [.float .f64 p] k=aUd tr R p λt=>k (.bool t):=by kernel_rfl
theorem cBk(wi:aA1)(R:Type) x (k:KVO R):fC (cx P9 [(113,bNv wi)]) 60 121 [.float .f64 x] k=wi R x 4697254411347427328 (λt=>aW t λt=>k (.bool t)):=by kernel_rfl
theorem bGs(tr:KFF)(R:Type) p (k:KVO R):fC (cxf aG P9 [] [(127,sFF tr)]) 60 122 [.float .f64 p] k=tr R p λy=>k (.float .f64 y):=by kernel_rfl
theorem bWm(R:Type) n (k:KVO R):fC (cxf aG P9 [] [(57,aKw)]) 60 106 [.int .u64 n] k=bH n.toNat λx=>k (.float .f64 x):=by kernel_rfl
theorem cGy(mul:gU)(R:Type) a b (k:KVO R):fC (cx P9 [(43,jH mul)]) 60 90 [.complex .f64 a b,.int .i64 0] k=k (.complex .f64 4607182418800017408 0):=by kernel_rfl
theorem cG0(mul:gU)(R:Type) a b (k:KVO R):fC (cx P9 [(43,jH mul)]) 60 90 [.complex .f64 a b,.int .i64 2] k=gR mul a b (pI 2) a b λx y=>k (.complex .f64 x y):=by kernel_rfl
theorem cG1(mul:gU)(R:Type) a b (k:KVO R):fC (cx P9 [(43,jH mul)]) 60 90 [.complex .f64 a b,.int .i64 3] k=gR mul a b (pI 3) a b λx y=>k (.complex .f64 x y):=by kernel_rfl
theorem cG2(mul:gU)(R:Type) a b (k:KVO R):fC (cx P9 [(43,jH mul)]) 60 90 [.complex .f64 a b,.int .i64 4] k=gR mul a b (pI 4) a b λx y=>k (.complex .f64 x y):=by kernel_rfl
theorem cG4(mul:gU)(R:Type) a b (k:KVO R):fC (cx P9 [(43,jH mul)]) 60 90 [.complex .f64 a b,.int .i64 6] k=gR mul a b (pI 6) a b λx y=>k (.complex .f64 x y):=by kernel_rfl
theorem cG5(mul:gU)(R:Type) a b (k:KVO R):fC (cx P9 [(43,jH mul)]) 60 90 [.complex .f64 a b,.int .i64 7] k=gR mul a b (pI 7) a b λx y=>k (.complex .f64 x y):=by kernel_rfl
theorem cG6(mul:gU)(R:Type) a b (k:KVO R):fC (cx P9 [(43,jH mul)]) 60 90 [.complex .f64 a b,.int .i64 8] k=gR mul a b (pI 8) a b λx y=>k (.complex .f64 x y):=by kernel_rfl
theorem cG7(mul:gU)(R:Type) a b (k:KVO R):fC (cx P9 [(43,jH mul)]) 60 90 [.complex .f64 a b,.int .i64 9] k=gR mul a b (pI 9) a b λx y=>k (.complex .f64 x y):=by kernel_rfl
theorem yM:Has P9 114:=⟨Tryz.f114,_,Tryz.func114,by kernel_rfl,rfl⟩
theorem bR1:xS P9 128 (sFF (sN .zero)):=λR args k r hr=>bYx R args k r (by
 unfold sFF at hr;split at hr;· exact hr
 ·cases hr)
theorem bYy:xS P9 127 (sFF (sN .even)):=λR args k r hr=>cCw R args k r (by
 unfold sFF at hr;split at hr;· exact hr
 ·cases hr)
theorem aJe:cH P9 114 (sFB eC):=rR (l:=[]) (es:=[(128,sFF (sN .zero))]) (n:=60) aO .nil (yJ (.cons bR1 .nil)) λR args k r hr=>by
 unfold sFB at hr;split at hr;· simp only[aJ]at hr;exact⟨rfl,by rw[bPr];exact hr⟩
 ·cases hr
theorem bZj:Has P9 121:=⟨Tryz.f121,_,Tryz.func121,by kernel_rfl,rfl⟩
theorem aR4:Has P9 122:=⟨Tryz.f122,_,Tryz.func122,by kernel_rfl,rfl⟩
theorem bH4:Has P9 106:=⟨Tryz.f106,_,Tryz.func106,by kernel_rfl,rfl⟩
theorem bL6:Has P9 108:=⟨Tryz.f108,_,Tryz.func108,by kernel_rfl,rfl⟩
theorem bSv:Has P9 123:=⟨Tryz.f123,_,Tryz.func123,by kernel_rfl,rfl⟩
theorem aYv:Has P9 107:=⟨Tryz.f107,_,Tryz.func107,by kernel_rfl,rfl⟩
theorem bH5:Has P9 71:=⟨Tryz.f71,_,Tryz.func71,by kernel_rfl,rfl⟩
theorem bD6:Has P9 168:=⟨Tryz.f168,_,Tryz.func168,by kernel_rfl,rfl⟩
theorem bZi:Has P9 167:=⟨Tryz.f167,_,Tryz.func167,by kernel_rfl,rfl⟩
theorem bSu:Has P9 166:=⟨Tryz.f166,_,Tryz.func166,by kernel_rfl,rfl⟩
theorem bSw:Has P9 165:=⟨Tryz.f165,_,Tryz.func165,by kernel_rfl,rfl⟩
theorem zS:Has P9 90:=⟨Tryz.f90,_,Tryz.func90,by kernel_rfl,rfl⟩
theorem mN:Has P9 84:=⟨Tryz.f84,_,Tryz.func84,by kernel_rfl,rfl⟩
theorem bZ2:cH P9 121 (sFB bQh):=dL aO (.cons k80 h80 .nil) (n:=60) λR args k r hr=>by
 unfold sFB at hr;split at hr;· exact⟨rfl,(cBk cJ R _ k).trans (by unfold bQh at hr;simpa only[aJ] using hr)⟩
 ·cases hr
theorem aSg:cH P9 122 (sFF (sN .even)):=rR (l:=[]) (es:=[(127,sFF (sN .even))]) (n:=60) aO .nil (yJ (.cons bYy .nil)) λR args k r hr=>by
 unfold sFF at hr;split at hr;· exact⟨rfl,(bGs _ R _ k).trans hr⟩
 ·cases hr
theorem bIc:cH P9 106 aKw:=rR (l:=[]) (es:=[(57,aKw)]) (n:=60) aO .nil (yJ (.cons cCv .nil)) λR args k r hr=>by
 unfold aKw at hr;split at hr;· exact⟨rfl,(bWm R _ k).trans hr⟩
 ·cases hr
theorem bMk:cH P9 108 (bC0 yC):=dL aO .nil (n:=60) λR args k r hr=>by
 unfold bC0 at hr;split at hr;· exact⟨rfl,(bPq R _ k).trans hr⟩
 ·cases hr
theorem bTi:cH P9 123 (bNy aOz):=dL aO (.cons bIc bH4 .nil) (n:=60) λR args k r hr=>by
 unfold bNy at hr;split at hr
 ·rename_i x m t;cases ht:N9 t 4607182418800017408 with
  |false=>rw[ht]at hr;cases hr
  |true=>rw[ht]at hr;have:=gO ht;subst this;exact⟨rfl,(bWn R _ _ k).trans hr⟩
 ·cases hr
theorem aZi:cH P9 107 (aGr vJ):=aFa aO (.cons bZ2 bZj (.cons aSg aR4 (.cons bTi bSv (.cons k55 h55 (.cons bIc bH4 .nil))))) (bCq aG bQh (sN .even) aOz)
theorem bIe:cH P9 71 (bC0 yV):=dL aO (.cons aZi aYv (.cons bMk bL6 .nil)) (n:=60) λR args k r hr=>by
 unfold bC0 at hr;split at hr;· exact⟨rfl,(bWp vJ yC R _ k).trans hr⟩
 ·cases hr
theorem bEl:cH P9 168 (aP8 aKf):=dL aO .nil (n:=60) λR args k r hr=>by
 unfold aP8 at hr;split at hr
 ·rename_i r0 j;cases hj:(j==1) with
  |false=>rw[hj]at hr;cases hr
  |true=>
   rw[hj]at hr;have:j=1:=by simpa using hj
   subst this;exact⟨rfl,(bGt R _ k).trans hr⟩
 ·cases hr
theorem bZ1:cH P9 167 (sFF bYz):=aMl aO (.cons aSg aR4 (.cons bEl bD6 (.cons bXr bXk (.cons aZh bSp .nil)))) (cBj aG (sN .even) aKf wP)
theorem bTh:cH P9 166 (sCC bKl):=aE9 aO (.cons bZ1 bZi (.cons bIe bH5 .nil)) (bWl bYz yV)
theorem bTj:cH P9 165 (tF bNp):=aZ5 aO (.cons cD1 cC7 (.cons k39 h39 (.cons bTh bSu .nil))) (bWo aJ1 eQ bKl)
theorem bMj:cH P9 84 (sEI tA):=dL aO (.cons aF9 aF7 (.cons k80 h80 (.cons aGa aF8 (.cons aJe yM .nil)))) (n:=60) λR args k r hr=>by
 unfold sEI at hr;split at hr;· exact⟨rfl,(aKx cK cJ bJ eC R _ _ _ _ _ _ k).trans hr⟩
 ·cases hr
theorem bEm:cH P9 114 (bQq wyK):=aJe.weak λR args k r hr=>by
 refine⟨λv=>match v with | .bool true=>k v|_=>none,?_,λv hv=>?_⟩
 ·unfold bQq at hr;split at hr
  ·unfold sFB;simp only;unfold wyK at hr;rw[<-hr]
   first
    |done
    |(congr 1;funext t;rw[aJ];cases t<;>rfl)
    |(congr 1)
  ·cases hr
 ·simp only at hv;split at hv
  ·exact hv
  ·cases hv
theorem bZ3:cH P9 114 (cAx wnK):=aJe.weak λR args k r hr=>by
 refine⟨λv=>match v with | .bool false=>k v|_=>none,?_,λv hv=>?_⟩
 ·unfold cAx at hr;split at hr
  ·unfold sFB;simp only;unfold wnK at hr;rw[<-hr]
   first
    |done
    |(congr 1;funext t;rw[aJ];cases t<;>rfl)
    |(congr 1)
  ·cases hr
 ·simp only at hv;split at hv
  ·exact hv
  ·cases hv
theorem kI:cH P9 84 (sEI (cT cK cJ bJ eC)):=bMj
theorem aBl:cH P9 90 (sKW lL):=dL aO (.cons k22 h22 .nil) (n:=60) λR args k r hr=>by
 unfold sKW at hr;split at hr
 ·rename_i a b n;unfold lL at hr;cases h0:(n==0) with
  |true=>
   have e:n=0:=by simpa using h0
   subst e;exact⟨rfl,(cGy dV R a b k).trans hr⟩
  |false=>
   rw[h0]at hr;simp only[F7]at hr;cases h1:(n==1) with
   |true=>
    have e:n=1:=by simpa using h1
    subst e;exact⟨rfl,(cGz dV R a b k).trans hr⟩
   |false=>
    rw[h1]at hr;simp only[F7]at hr;cases h2:(n==2) with
    |true=>
     have e:n=2:=by simpa using h2
     subst e;exact⟨rfl,(cG0 dV R a b k).trans hr⟩
    |false=>
     rw[h2]at hr;simp only[F7]at hr;cases h3:(n==3) with
     |true=>
      have e:n=3:=by simpa using h3
      subst e;exact⟨rfl,(cG1 dV R a b k).trans hr⟩
     |false=>
      rw[h3]at hr;simp only[F7]at hr;cases h4:(n==4) with
      |true=>
       have e:n=4:=by simpa using h4
       subst e;exact⟨rfl,(cG2 dV R a b k).trans hr⟩
      |false=>
       rw[h4]at hr;simp only[F7]at hr;cases h5:(n==5) with
       |true=>
        have e:n=5:=by simpa using h5
        subst e;exact⟨rfl,(cG3 dV R a b k).trans hr⟩
       |false=>
        rw[h5]at hr;simp only[F7]at hr;cases h6:(n==6) with
        |true=>
         have e:n=6:=by simpa using h6
         subst e;exact⟨rfl,(cG4 dV R a b k).trans hr⟩
        |false=>
         rw[h6]at hr;simp only[F7]at hr;cases h7:(n==7) with
         |true=>
          have e:n=7:=by simpa using h7
          subst e;exact⟨rfl,(cG5 dV R a b k).trans hr⟩
         |false=>
          rw[h7]at hr;simp only[F7]at hr;cases h8:(n==8) with
          |true=>
           have e:n=8:=by simpa using h8
           subst e;exact⟨rfl,(cG6 dV R a b k).trans hr⟩
          |false=>
           rw[h8]at hr;simp only[F7]at hr;cases h9:(n==9) with
           |true=>
            have e:n=9:=by simpa using h9
            subst e;exact⟨rfl,(cG7 dV R a b k).trans hr⟩
           |false=>
            rw[h9]at hr;simp only[F7]at hr;cases h10:(n==10) with
            |true=>
             have e:n=10:=by simpa using h10
             subst e;exact⟨rfl,(cBl dV R a b k).trans hr⟩
            |false=>rw[h10]at hr;simp only[F7]at hr;cases hr
 ·cases hr
theorem aVd(v : V9) : calm P9 (method (Tryz.prog.types.size + Made.depth) 141 v "eddy/element.speed") = some (149, v) := by kernel_rfl
theorem aVe(v : V9) : calm P9 (method (Tryz.prog.types.size + Made.depth) 143 v "eddy/element.speed") = some (160, v) := by kernel_rfl
theorem aVf(v : V9) : calm P9 (method (Tryz.prog.types.size + Made.depth) 145 v "eddy/element.speed") = some (164, v) := by kernel_rfl
theorem aVg(v : V9) : calm P9 (method (Tryz.prog.types.size + Made.depth) 147 v "eddy/element.speed") = some (171, v) := by kernel_rfl
theorem aVh(v : V9) : calm P9 (method (Tryz.prog.types.size + Made.depth) 148 v "eddy/element.speed") = some (174, v) := by kernel_rfl
theorem aGl(v : V9) : calm P9 (method (Tryz.prog.types.size + Made.depth) 141 v "eddy/element.potential") = some (147, v) := by kernel_rfl
theorem aGm(v : V9) : calm P9 (method (Tryz.prog.types.size + Made.depth) 143 v "eddy/element.potential") = some (158, v) := by kernel_rfl
theorem aGn(v : V9) : calm P9 (method (Tryz.prog.types.size + Made.depth) 145 v "eddy/element.potential") = some (162, v) := by kernel_rfl
theorem aGo(v : V9) : calm P9 (method (Tryz.prog.types.size + Made.depth) 147 v "eddy/element.potential") = some (169, v) := by kernel_rfl
theorem aGp(v : V9) : calm P9 (method (Tryz.prog.types.size + Made.depth) 148 v "eddy/element.potential") = some (172, v) := by kernel_rfl
theorem aU8(v : V9) : calm P9 (method (Tryz.prog.types.size + Made.depth) 141 v "eddy/element.slope") = some (148, v) := by kernel_rfl
theorem aU9(v : V9) : calm P9 (method (Tryz.prog.types.size + Made.depth) 143 v "eddy/element.slope") = some (159, v) := by kernel_rfl
theorem aVa(v : V9) : calm P9 (method (Tryz.prog.types.size + Made.depth) 145 v "eddy/element.slope") = some (163, v) := by kernel_rfl
theorem aVb(v : V9) : calm P9 (method (Tryz.prog.types.size + Made.depth) 147 v "eddy/element.slope") = some (170, v) := by kernel_rfl
theorem aVc(v : V9) : calm P9 (method (Tryz.prog.types.size + Made.depth) 148 v "eddy/element.slope") = some (173, v) := by kernel_rfl
theorem bAf{t f a1 a2 a3 a4 a5 b1 b2 b3 b4 b5:Nat}(h:(bif N9 t a1 then some b1 else bif N9 t a2 then some b2 else bif N9 t a3 then some b3 else bif N9 t a4 then some b4 else bif N9 t a5 then some b5 else none)=some f):
  (t=a1/\f=b1)\/(t=a2/\f=b2)\/(t=a3/\f=b3)\/(t=a4/\f=b4)\/(t=a5/\f=b5):=by
 cases h1:N9 t a1 with
 |true=>rw[h1]at h;exact .inl ⟨gO h1,(Option.some.inj h).symm⟩
 |false=>
  rw[h1]at h;refine .inr ?_;cases h1:N9 t a2 with
  |true=>rw[h1]at h;exact .inl ⟨gO h1,(Option.some.inj h).symm⟩
  |false=>
   rw[h1]at h;refine .inr ?_;cases h1:N9 t a3 with
   |true=>rw[h1]at h;exact .inl ⟨gO h1,(Option.some.inj h).symm⟩
   |false=>
    rw[h1]at h;refine .inr ?_;cases h1:N9 t a4 with
    |true=>rw[h1]at h;exact .inl ⟨gO h1,(Option.some.inj h).symm⟩
    |false=>
     rw[h1]at h;refine .inr ?_;cases h1:N9 t a5 with
     |true=>rw[h1]at h;exact⟨gO h1,(Option.some.inj h).symm⟩
     |false=>rw[h1]at h;cases h
theorem bEy:∀t s f,bMu t s=some f->∀v w,(method (Tryz.prog.types.size+Made.depth) t v s).run P9 w=.ok (f,v) w:=by
 intro t s f h v w;unfold bMu at h;cases h_speed : (s == "eddy/element.speed") with
 |true=>
  rw[h_speed]at h;have e : s = "eddy/element.speed" := by simpa using h_speed
  subst e;rcases bAf h with ⟨rfl,rfl⟩|⟨rfl,rfl⟩|⟨rfl,rfl⟩|⟨rfl,rfl⟩|⟨rfl,rfl⟩;· exact bV (aVd v) w
  ·exact bV (aVe v) w
  ·exact bV (aVf v) w
  ·exact bV (aVg v) w
  ·exact bV (aVh v) w
 |false=>
  rw[h_speed]at h;simp only[F7]at h;cases h_potential : (s == "eddy/element.potential") with
  |true=>
   rw[h_potential]at h;have e : s = "eddy/element.potential" := by simpa using h_potential
   subst e;rcases bAf h with ⟨rfl,rfl⟩|⟨rfl,rfl⟩|⟨rfl,rfl⟩|⟨rfl,rfl⟩|⟨rfl,rfl⟩;· exact bV (aGl v) w
   ·exact bV (aGm v) w
   ·exact bV (aGn v) w
   ·exact bV (aGo v) w
   ·exact bV (aGp v) w
  |false=>
   rw[h_potential]at h;simp only[F7]at h;cases h_slope : (s == "eddy/element.slope") with
   |true=>
    rw[h_slope]at h;have e : s = "eddy/element.slope" := by simpa using h_slope
    subst e;rcases bAf h with ⟨rfl,rfl⟩|⟨rfl,rfl⟩|⟨rfl,rfl⟩|⟨rfl,rfl⟩|⟨rfl,rfl⟩;· exact bV (aU8 v) w
    ·exact bV (aU9 v) w
    ·exact bV (aVa v) w
    ·exact bV (aVb v) w
    ·exact bV (aVc v) w
   |false=>rw[h_slope]at h;simp only[F7]at h;cases h
theorem qS{l:List (Nat×Sum)}(h:mE P9 l):(cxv P9 l).Ok where
 fair:=aI
 sums:=λf g hg=>aCq h f g hg
 exts:=λf g hg=>by cases hg
 meths:=bEy
 nan1:=λf hf=>by cases hf
 hs:=λf args H v h=>by cases h
theorem qL{α:Type}{p W:Nat}{x y r:α}(h:(bif N9 p W then x else y)=r):(p=W/\x=r)\/y=r:=by
 cases hb:N9 p W with
 |true=>rw[hb]at h;exact .inl ⟨gO hb,h⟩
 |false=>rw[hb]at h;exact .inr h
theorem aId{α:Type}{p W:Int}{x y r:α}(h:(bif p==W then x else y)=r):(p=W/\x=r)\/y=r:=by
 cases hb:p==W with
 |true=>rw[hb]at h;exact .inl ⟨by simpa using hb,h⟩
 |false=>rw[hb]at h;exact .inr h
def vU(f:FuncId)(kind:Int)(a1 a2 s1 s2 p z1 z2:Nat){R:Type}(k:KVO R)(r:R):Prop:=
 ∃v,k v=some r/\flat v=true/\∀w,Calls P9 f ⟨[.agg ⟨[.int .u8 kind,.complex .f64 a1 a2,.complex .f64 s1 s2,.float .f64 p]⟩,.complex .f64 z1 z2]⟩ w λe w'=>e=.returned v/\RowKit.Below w.heap.size w w'
theorem cBa(R:Type)(a1 a2 s1 s2 p z1 z2:Nat)(k:KVO R)(r:R)(hr:vS1 a1 a2 s1 s2 p z1 z2 (mL k) (zOk k)=some r):vU 28 1 a1 a2 s1 s2 p z1 z2 k r:=by unfold vS1 at hr;exact cD (qS (.cons kI mN (.cons aF9 aF7 (.cons aGa aF8 (.cons k93 h93 (.cons k21 h21 .nil)))))) aO ((cGx cK cJ bJ aP eC gJ R a1 a2 s1 s2 p z1 z2 k).trans hr) rfl
theorem cA9(R:Type)(a1 a2 s1 s2 p z1 z2:Nat)(k:KVO R)(r:R)(hr:vO1 a1 a2 s1 s2 p z1 z2 (mL k) (zOk k)=some r):vU 28 2 a1 a2 s1 s2 p z1 z2 k r:=by unfold vO1 at hr;exact cD (qS (.cons kI mN (.cons aF9 aF7 (.cons aGa aF8 (.cons k93 h93 (.cons k21 h21 (.cons aSf aR3 (.cons k39 h39 (.cons bMi bL5 .nil))))))))) aO ((cGw cK cJ bJ aP eC gJ rN eQ R a1 a2 s1 s2 p z1 z2 k).trans hr) rfl
theorem bOw(R:Type)(a1 a2 s1 s2 p z1 z2:Nat)(k:KVO R)(r:R)(hr:bGj a1 a2 s1 s2 p z1 z2 (mL k) (zOk k)=some r):vU 28 3 a1 a2 s1 s2 4607182418800017408 z1 z2 k r:=by unfold bGj at hr;exact cD (qS (.cons kI mN (.cons aF9 aF7 (.cons aGa aF8 (.cons k93 h93 (.cons k21 h21 (.cons aSf aR3 (.cons k39 h39 (.cons aBl zS .nil))))))))) aO ((bWd cK cJ bJ aP eC gJ rN eQ lL R a1 a2 s1 s2 z1 z2 k).trans hr) rfl
theorem bOx(R:Type)(a1 a2 s1 s2 p z1 z2:Nat)(k:KVO R)(r:R)(hr:bGk a1 a2 s1 s2 p z1 z2 (mL k) (zOk k)=some r):vU 28 3 a1 a2 s1 s2 4611686018427387904 z1 z2 k r:=by unfold bGk at hr;exact cD (qS (.cons kI mN (.cons aF9 aF7 (.cons aGa aF8 (.cons k93 h93 (.cons k21 h21 (.cons aSf aR3 (.cons k39 h39 (.cons aBl zS .nil))))))))) aO ((bWe cK cJ bJ aP eC gJ rN eQ lL R a1 a2 s1 s2 z1 z2 k).trans hr) rfl
theorem bOy(R:Type)(a1 a2 s1 s2 p z1 z2:Nat)(k:KVO R)(r:R)(hr:bGl a1 a2 s1 s2 p z1 z2 (mL k) (zOk k)=some r):vU 28 3 a1 a2 s1 s2 4613937818241073152 z1 z2 k r:=by unfold bGl at hr;exact cD (qS (.cons kI mN (.cons aF9 aF7 (.cons aGa aF8 (.cons k93 h93 (.cons k21 h21 (.cons aSf aR3 (.cons k39 h39 (.cons aBl zS .nil))))))))) aO ((bWf cK cJ bJ aP eC gJ rN eQ lL R a1 a2 s1 s2 z1 z2 k).trans hr) rfl
theorem bOz(R:Type)(a1 a2 s1 s2 p z1 z2:Nat)(k:KVO R)(r:R)(hr:bGm a1 a2 s1 s2 p z1 z2 (mL k) (zOk k)=some r):vU 28 3 a1 a2 s1 s2 4616189618054758400 z1 z2 k r:=by unfold bGm at hr;exact cD (qS (.cons kI mN (.cons aF9 aF7 (.cons aGa aF8 (.cons k93 h93 (.cons k21 h21 (.cons aSf aR3 (.cons k39 h39 (.cons aBl zS .nil))))))))) aO ((bWg cK cJ bJ aP eC gJ rN eQ lL R a1 a2 s1 s2 z1 z2 k).trans hr) rfl
theorem bO0(R:Type)(a1 a2 s1 s2 p z1 z2:Nat)(k:KVO R)(r:R)(hr:bGn a1 a2 s1 s2 p z1 z2 (mL k) (zOk k)=some r):vU 28 3 a1 a2 s1 s2 4617315517961601024 z1 z2 k r:=by unfold bGn at hr;exact cD (qS (.cons kI mN (.cons aF9 aF7 (.cons aGa aF8 (.cons k93 h93 (.cons k21 h21 (.cons aSf aR3 (.cons k39 h39 (.cons aBl zS .nil))))))))) aO ((bWh cK cJ bJ aP eC gJ rN eQ lL R a1 a2 s1 s2 z1 z2 k).trans hr) rfl
theorem bO1(R:Type)(a1 a2 s1 s2 p z1 z2:Nat)(k:KVO R)(r:R)(hr:bGo a1 a2 s1 s2 p z1 z2 (mL k) (zOk k)=some r):vU 28 3 a1 a2 s1 s2 4618441417868443648 z1 z2 k r:=by unfold bGo at hr;exact cD (qS (.cons kI mN (.cons aF9 aF7 (.cons aGa aF8 (.cons k93 h93 (.cons k21 h21 (.cons aSf aR3 (.cons k39 h39 (.cons aBl zS .nil))))))))) aO ((bWi cK cJ bJ aP eC gJ rN eQ lL R a1 a2 s1 s2 z1 z2 k).trans hr) rfl
theorem bO2(R:Type)(a1 a2 s1 s2 p z1 z2:Nat)(k:KVO R)(r:R)(hr:bGp a1 a2 s1 s2 p z1 z2 (mL k) (zOk k)=some r):vU 28 3 a1 a2 s1 s2 4619567317775286272 z1 z2 k r:=by unfold bGp at hr;exact cD (qS (.cons kI mN (.cons aF9 aF7 (.cons aGa aF8 (.cons k93 h93 (.cons k21 h21 (.cons aSf aR3 (.cons k39 h39 (.cons aBl zS .nil))))))))) aO ((bWj cK cJ bJ aP eC gJ rN eQ lL R a1 a2 s1 s2 z1 z2 k).trans hr) rfl
theorem bO3(R:Type)(a1 a2 s1 s2 p z1 z2:Nat)(k:KVO R)(r:R)(hr:bGq a1 a2 s1 s2 p z1 z2 (mL k) (zOk k)=some r):vU 28 3 a1 a2 s1 s2 4620693217682128896 z1 z2 k r:=by unfold bGq at hr;exact cD (qS (.cons kI mN (.cons aF9 aF7 (.cons aGa aF8 (.cons k93 h93 (.cons k21 h21 (.cons aSf aR3 (.cons k39 h39 (.cons aBl zS .nil))))))))) aO ((bWk cK cJ bJ aP eC gJ rN eQ lL R a1 a2 s1 s2 z1 z2 k).trans hr) rfl
theorem bOs(R:Type)(a1 a2 s1 s2 p z1 z2:Nat)(k:KVO R)(r:R)(hr:bGf a1 a2 s1 s2 p z1 z2 (mL k) (zOk k)=some r):vU 28 4 a1 a2 s1 s2 4607182418800017408 z1 z2 k r:=by unfold bGf at hr;exact cD (qS (.cons kI mN (.cons aF9 aF7 (.cons aGa aF8 (.cons k93 h93 (.cons k21 h21 (.cons k22 h22 (.cons k39 h39 (.cons aBl zS (.cons bEm yM .nil)))))))))) aO ((bV9 cK cJ bJ aP eC gJ dV eQ lL wyK R a1 a2 s1 s2 z1 z2 k).trans hr) rfl
theorem bOt(R:Type)(a1 a2 s1 s2 p z1 z2:Nat)(k:KVO R)(r:R)(hr:bGg a1 a2 s1 s2 p z1 z2 (mL k) (zOk k)=some r):vU 28 4 a1 a2 s1 s2 4611686018427387904 z1 z2 k r:=by unfold bGg at hr;exact cD (qS (.cons kI mN (.cons aF9 aF7 (.cons aGa aF8 (.cons k93 h93 (.cons k21 h21 (.cons k22 h22 (.cons k39 h39 (.cons aBl zS (.cons bEm yM .nil)))))))))) aO ((bWa cK cJ bJ aP eC gJ dV eQ lL wyK R a1 a2 s1 s2 z1 z2 k).trans hr) rfl
theorem bOu(R:Type)(a1 a2 s1 s2 p z1 z2:Nat)(k:KVO R)(r:R)(hr:bGh a1 a2 s1 s2 p z1 z2 (mL k) (zOk k)=some r):vU 28 4 a1 a2 s1 s2 4613937818241073152 z1 z2 k r:=by unfold bGh at hr;exact cD (qS (.cons kI mN (.cons aF9 aF7 (.cons aGa aF8 (.cons k93 h93 (.cons k21 h21 (.cons k22 h22 (.cons k39 h39 (.cons aBl zS (.cons bEm yM .nil)))))))))) aO ((bWb cK cJ bJ aP eC gJ dV eQ lL wyK R a1 a2 s1 s2 z1 z2 k).trans hr) rfl
theorem bOv(R:Type)(a1 a2 s1 s2 p z1 z2:Nat)(k:KVO R)(r:R)(hr:bGi a1 a2 s1 s2 p z1 z2 (mL k) (zOk k)=some r):vU 28 4 a1 a2 s1 s2 4616189618054758400 z1 z2 k r:=by unfold bGi at hr;exact cD (qS (.cons kI mN (.cons aF9 aF7 (.cons aGa aF8 (.cons k93 h93 (.cons k21 h21 (.cons k22 h22 (.cons k39 h39 (.cons aBl zS (.cons bEm yM .nil)))))))))) aO ((bWc cK cJ bJ aP eC gJ dV eQ lL wyK R a1 a2 s1 s2 z1 z2 k).trans hr) rfl
theorem cA6(R:Type)(a1 a2 s1 s2 p z1 z2:Nat)(k:KVO R)(r:R)(hr:vB1 a1 a2 s1 s2 p z1 z2 (mL k) (zOk k)=some r):vU 28 4 a1 a2 s1 s2 p z1 z2 k r:=by unfold vB1 at hr;exact cD (qS (.cons kI mN (.cons aF9 aF7 (.cons aGa aF8 (.cons k93 h93 (.cons k21 h21 (.cons k22 h22 (.cons k39 h39 (.cons bTj bSw (.cons bZ3 yM .nil)))))))))) aO ((cGv cK cJ bJ aP eC gJ dV eQ bNp wnK R a1 a2 s1 s2 p z1 z2 k).trans hr) rfl
theorem cA8(R:Type)(a1 a2 s1 s2 p z1 z2:Nat)(k:KVO R)(r:R)(hr:vD1 a1 a2 s1 s2 p z1 z2 (mL k) (zOk k)=some r):vU 28 3 a1 a2 s1 s2 p z1 z2 k r:=by
 unfold vD1 at hr;rcases qL hr with ⟨e,hr⟩|hr;· rw[e];exact bOw R a1 a2 s1 s2 p z1 z2 k r hr
 rcases qL hr with ⟨e,hr⟩|hr;· rw[e];exact bOx R a1 a2 s1 s2 p z1 z2 k r hr
 rcases qL hr with ⟨e,hr⟩|hr;· rw[e];exact bOy R a1 a2 s1 s2 p z1 z2 k r hr
 rcases qL hr with ⟨e,hr⟩|hr;· rw[e];exact bOz R a1 a2 s1 s2 p z1 z2 k r hr
 rcases qL hr with ⟨e,hr⟩|hr;· rw[e];exact bO0 R a1 a2 s1 s2 p z1 z2 k r hr
 rcases qL hr with ⟨e,hr⟩|hr;· rw[e];exact bO1 R a1 a2 s1 s2 p z1 z2 k r hr
 rcases qL hr with ⟨e,hr⟩|hr;· rw[e];exact bO2 R a1 a2 s1 s2 p z1 z2 k r hr
 rcases qL hr with ⟨e,hr⟩|hr;· rw[e];exact bO3 R a1 a2 s1 s2 p z1 z2 k r hr
 cases hr
theorem cA7(R:Type)(a1 a2 s1 s2 p z1 z2:Nat)(k:KVO R)(r:R)(hr:vC1 a1 a2 s1 s2 p z1 z2 (mL k) (zOk k)=some r):vU 28 4 a1 a2 s1 s2 p z1 z2 k r:=by
 unfold vC1 at hr;rcases qL hr with ⟨e,hr⟩|hr;· rw[e];exact bOs R a1 a2 s1 s2 p z1 z2 k r hr
 rcases qL hr with ⟨e,hr⟩|hr;· rw[e];exact bOt R a1 a2 s1 s2 p z1 z2 k r hr
 rcases qL hr with ⟨e,hr⟩|hr;· rw[e];exact bOu R a1 a2 s1 s2 p z1 z2 k r hr
 rcases qL hr with ⟨e,hr⟩|hr;· rw[e];exact bOv R a1 a2 s1 s2 p z1 z2 k r hr
 exact cA6 R a1 a2 s1 s2 p z1 z2 k r hr
theorem bTl:cH P9 28 (cEn spdK):=by
 intro R args k r hr;unfold cEn at hr;split at hr
 ·rename_i kind a1 a2 s1 s2 p z1 z2;replace hr:bN4 kind a1 a2 s1 s2 p z1 z2 (mL k) (zOk k)=some r:=hr;refine⟨rfl,?_⟩;show vU 28 kind a1 a2 s1 s2 p z1 z2 k r;unfold bN4 at hr;rcases aId hr with ⟨e,hr⟩|hr
  ·rw[e];exact cBa R a1 a2 s1 s2 p z1 z2 k r hr
  rcases aId hr with ⟨e,hr⟩|hr;· rw[e];exact cA9 R a1 a2 s1 s2 p z1 z2 k r hr
  rcases aId hr with ⟨e,hr⟩|hr;· rw[e];exact cA8 R a1 a2 s1 s2 p z1 z2 k r hr
  rcases aId hr with ⟨e,hr⟩|hr;· rw[e];exact cA7 R a1 a2 s1 s2 p z1 z2 k r hr
  cases hr
 ·cases hr
theorem bG7(tr:KFF)(R:Type) p (k:KVO R):fC (cxf aG P9 [] [(128,sFF tr)]) 60 114 [.float .f64 p] k=aUd tr R p λt=>k (.bool t):=by kernel_rfl
theorem bSt:xS P9 128 (sFF (sN .zero)):=λR args k r hr=>bYx R args k r (by
 unfold sFF at hr;split at hr;· exact hr
 ·cases hr)
theorem bZx:cH P9 114 (sFB eC):=rR (l:=[]) (es:=[(128,sFF (sN .zero))]) (n:=60) aO .nil (yJ (.cons bSt .nil)) λR args k r hr=>by
 unfold sFB at hr;split at hr;· simp only[aJ]at hr;exact⟨rfl,by rw[bG7];exact hr⟩
 ·cases hr
theorem bZt:cH P9 84 (sEI tA):=dL aO (.cons aF9 aF7 (.cons k80 h80 (.cons aGa aF8 (.cons bZx bXn .nil)))) (n:=60) λR args k r hr=>by
 unfold sEI at hr;split at hr;· rename_i kind a1 a2 s1 s2 p;exact⟨rfl,(aKx cK cJ bJ eC R kind a1 a2 s1 s2 p k).trans hr⟩
 ·cases hr
theorem aG4:(ckC aG rEl rSt (rAp P9) tA).Ok:=lS jR (.cons bZt bSq .nil) lY .nil .nil (jX bXy)
def aNy(er:El->Int)(x:El):Prop:=∀(R:Type)(k:KIO R),tA R x.kind x.a1 x.a2 x.s1 x.s2 x.p k=k (er x)
section
variable{cs:List V9}{sz o c:Nat}{xs:List El}{er:El->Int}
theorem bKk(hx:uP cs o xs)(hn:xs.length<=256){k:Nat}{x:El}(hk:xs[k]?=some x)(he:aNy er x)(h0:er x=0):
  cI P9 1 23 ⟨2,[(0,.cells cs sz)]⟩ (ckE o xs.length c k) ⟨2,[(0,.cells cs sz)]⟩ .normal (ckE o xs.length c (k+1:Nat)) ⟨2,[(0,.cells cs sz)]⟩ (λQ a w=>aD3.wp P9 Q a w):=by
 have hkn:=(List.getElem?_eq_some_iff.1 hk).1;exact bK (C:=ckC aG rEl rSt (rAp P9) tA) (H0:=⟨2,[(0,.cells cs sz)]⟩) (e:=ckE o xs.length c k) (H:=⟨2,[(0,.cells cs sz)]⟩) (n:=60) (ts:=[13,12,11,2]) (bo:=[]) (bs:=[]) (A:=[]) (B:=[(0,.cells cs sz)]) (D:=[]) aG4 aO aIl
  (by rw[aIm,D7 (show(k:Int)<xs.length by omega),T7,jN,T7,uH hx hk,he,h0];show aG _ _ _=_;rw[aI,fN (by omega)]) rfl rfl rfl rfl rfl rfl rfl
theorem bRj(hx:uP cs o xs)(hn:xs.length<=256){k:Nat}{x:El}(hk:xs[k]?=some x)(he:aNy er x)(h0:er x≠0):
  cI P9 1 23 ⟨2,[(0,.cells cs sz)]⟩ (ckE o xs.length c k) ⟨2,[(0,.cells cs sz)]⟩ .ret (ckX o xs.length c k (er x)) ⟨2,[(0,.cells cs sz)]⟩ (λQ a w=>aD3.wp P9 Q a w):=by
 have hkn:=(List.getElem?_eq_some_iff.1 hk).1;exact bK (C:=ckC aG rEl rSt (rAp P9) tA) (H0:=⟨2,[(0,.cells cs sz)]⟩) (e:=ckE o xs.length c k) (H:=⟨2,[(0,.cells cs sz)]⟩) (n:=60) (ts:=[13,12,11,2]) (bo:=[]) (bs:=[]) (A:=[]) (B:=[(0,.cells cs sz)]) (D:=[]) aG4 aO aIl
  (by rw[aIm,D7 (show(k:Int)<xs.length by omega),T7,jN,T7,uH hx hk,he,show(er x != 0)=true by simpa using h0];rfl) rfl rfl rfl rfl rfl rfl rfl
theorem bKj{n:Nat}:
  cI P9 1 23 ⟨2,[(0,.cells cs sz)]⟩ (ckE o n c n) ⟨2,[(0,.cells cs sz)]⟩ (.exit 0) (ckE o n c n) ⟨2,[(0,.cells cs sz)]⟩ (λQ a w=>aD3.wp P9 Q a w):=
 bK (C:=ckC aG rEl rSt (rAp P9) tA) (H0:=⟨2,[(0,.cells cs sz)]⟩) (e:=ckE o n c n) (H:=⟨2,[(0,.cells cs sz)]⟩) (n:=60) (ts:=[13,12,11,2]) (bo:=[]) (bs:=[]) (A:=[]) (B:=[(0,.cells cs sz)]) (D:=[]) aG4 aO aIl
  (by rw[aIm,E7 (by omega)];rfl) rfl rfl rfl rfl rfl rfl rfl
theorem aLi(hx:uP cs o xs)(hn:xs.length<=256)(he:∀x∈xs,aNy er x):∀(ys:List El)(k:Nat),xs.drop k=ys->k<=xs.length->
  ∃ex e',dH P9 1 23 ⟨2,[(0,.cells cs sz)]⟩ aD3 (ckE o xs.length c k) ⟨2,[(0,.cells cs sz)]⟩ ex e' ⟨2,[(0,.cells cs sz)]⟩/\
   ((ex=.exit 0/\e'=ckE o xs.length c xs.length/\rY (ys.map er)=0)\/(ex=.ret/\∃j:Nat,e'=ckX o xs.length c j (rY (ys.map er))))
 |[],k,hd,hk=>by
  have:k=xs.length:=by have:=congrArg List.length hd;rw[List.length_drop]at this;simp at this;omega
  subst this;exact⟨_,_,gY (by intro h;cases h) bKj,.inl ⟨rfl,rfl,rfl⟩⟩
 |y::ys,k,hd,hk=>by
  have hkx:xs[k]?=some y:=by rw[<-List.head?_drop,hd];rfl
  have hm:y∈xs:=List.mem_of_getElem? hkx;have hl:=(List.getElem?_eq_some_iff.1 hkx).1;by_cases h0:er y=0;· obtain⟨ex,e',h1,h2⟩:=aLi hx hn he ys (k+1) (by rw[<-List.tail_drop,hd];rfl) (by omega);refine⟨ex,e',aDx (bKk hx hn hkx (he y hm) h0) h1,?_⟩;simp only[List.map_cons,rY,if_pos h0];exact h2
  ·refine⟨_,_,gY (by intro h;cases h) (bRj hx hn hkx (he y hm) h0),.inr ⟨rfl,k,?_⟩⟩;simp only[List.map_cons,rY,if_neg h0]
theorem aD2(hx:uP cs o xs)(he:xs.length<=256->∀x∈xs,aNy er x):aD P9 34 [cW o xs.length c] ⟨1,[(0,.cells cs sz)]⟩ (.int .i64 (aEb er xs)):=by
 by_cases hn:256<xs.length
 ·have h:=bHl aG noL (Ex×Env×dF) rEl rSt (rAp P9) tA cs sz o xs.length c λex e O=>some (ex,e,O)
  rw[D7 (by omega),T7]at h;have:=fK (C:=ckC aG rEl rSt (rAp P9) tA) aG4 aO Tryz.func34 aN7 (λa _=>dJ qU) (kK rfl) h (.inr rfl) (vs:=[.int .i64 7]) rfl rfl;unfold aEb;rw[if_pos hn];exact this
 ·obtain⟨ex,e',h1,h2⟩:=aLi (c:=c) (sz:=sz) hx (by omega) (he (by omega)) xs 0 rfl (Nat.zero_le _);have hl:=@gG _ _ _ _ _ _ _ _ _ h1;have h:=bHl aG (told P9 ex e' ⟨2,[(0,.cells cs sz)]⟩) (Ex×Env×dF) rEl rSt (rAp P9) tA cs sz o xs.length c λex e O=>some (ex,e,O)
  rw[E7 (by omega),F7]at h;have h':=h.trans (gT @hl _ _);unfold aEb;rw[if_neg hn];rcases h2 with ⟨rfl,rfl,h2⟩|⟨rfl,j,rfl⟩;· rw[cX,bRp]at h';rw[h2];exact fK (C:=ckC aG rEl rSt (rAp P9) tA) aG4 aO Tryz.func34 aN7 (λa _=>dJ (gN _ _ _ _ a)) (kK rfl) h' (.inr rfl) (vs:=[.int .i64 0]) rfl rfl
  ·exact fK (C:=ckC aG rEl rSt (rAp P9) tA) aG4 aO Tryz.func34 aN7 (λa _=>dJ (gN _ _ _ _ a)) (kK rfl) h' (.inr rfl) (vs:=[.int .i64 (rY (xs.map er))]) rfl rfl
end
theorem cGs:bJu 5:=by intro R sp pl add fn g f c sz z1 z2 K;kernel_rfl
theorem cGt:bJu 6:=by intro R sp pl add fn g f c sz z1 z2 K;kernel_rfl
theorem bZc:Has P9 120:=⟨Tryz.f120,_,Tryz.func120,by kernel_rfl,rfl⟩
def cEm(wi:aNo):KCI:=λR a b k=>wi R a b 4787326403894837248 λt=>aW t λt=>match t with
 |true=>k 0
 |false=>k 5
theorem cCc(wi:aNo)(R:Type)(a b:Nat)(k:KVO R):fC (cx P9 [(92,aP3 wi)]) 60 120 [.complex .f64 a b] k=cEm wi R a b λe=>k (.int .i64 e):=by kernel_rfl
def bNm:KCI:=cEm jQ
theorem bZs:cH P9 120 (sCI bNm):=dL aO (.cons bIb bZd .nil) (n:=60) λR args k r hr=>by
 unfold sCI at hr;split at hr;· exact⟨rfl,(cCc _ R _ _ k).trans hr⟩
 ·cases hr
theorem cEd:cH P9 28 (bX7 spdK):=bTl
theorem cDm:Has P9 28:=⟨Tryz.f28,_,Tryz.func28,by kernel_rfl,rfl⟩
noncomputable def spR:Cx:=spC aG spdK bNm jJ aP (fJ P9 34 (.int .i64 0))
theorem bJe:spR.Ok:=aC1 (.cons cEd cDm (.cons bZs bZc (.cons k84 h84 (.cons k93 h93 .nil)))) (.cons (gL rfl) cC0 .nil) .nil
def elL(f:Nat->El):Nat->Nat->List El
 |_,0=>[]
 |i,m+1=>f i::elL f (i+1) m
theorem wY(f:Nat->El):∀m i,bDt f i m=cellsOf (elL f i m)
 |0,_=>rfl
 |m+1,i=>by show .int .u8 (f i).kind::.complex .f64 (f i).a1 (f i).a2::.complex .f64 (f i).s1 (f i).s2::.float .f64 (f i).p::bDt f (i+1) m=_;rw[wY f m (i+1)];rfl
def rG(xs:List El)(i:Nat):El:=xs.getD i ⟨0,0,0,0,0,0⟩
theorem aOi(xs:List El):elL (rG xs) 0 xs.length=xs:=by
 have key:∀(m i:Nat),i+m=xs.length->elL (rG xs) i m=xs.drop i:=by
  intro m;induction m with
  |zero=>intro i h;rw[List.drop_eq_nil_of_le (by omega)];rfl
  |succ m ih=>
   intro i h;have hi:i<xs.length:=by omega
   show rG xs i::elL (rG xs) (i+1) m=_;rw[ih (i+1) (by omega),List.drop_eq_getElem_cons hi];congr 1;unfold rG;simp[List.getD,hi]
 have:=key xs.length 0 (by omega);simpa using this
theorem aCa:∀(l:List El),rY (l.map λ_=>(0:Int))=0
 |[]=>rfl
 |x::r=>by simp only[List.map_cons,rY,if_true];exact aCa r
theorem aLl{xs:List El}(hm:xs.length<=6)(hf:∀x∈xs,aNy (λ_=>0) x){c sz:Nat}:aD P9 34 [cW 0 xs.length c] ⟨1,[(0,.cells (cellsOf xs) sz)]⟩ (.int .i64 0):=by
 have h:=aD2 (cs:=cellsOf xs) (sz:=sz) (o:=0) (c:=c) (xs:=xs) (er:=λ_=>0) (nN xs) λ_ x hx=>hf x hx
 have e:aEb (λ_=>0) xs=0:=by unfold aEb;rw[if_neg (by omega)];exact aCa _
 rwa[e]at h
theorem b61:Tryz.f61.body=some (bB 61):=by kernel_rfl
theorem bVl:∀m,1<=m->m<=6->bJu m
 |1,_,_=>cGo
 |2,_,_=>cGp
 |3,_,_=>cGq
 |4,_,_=>cGr
 |5,_,_=>cGs
 |6,_,_=>cGt
 |0,h,_=>absurd h (by omega)
 |n+7,_,h=>absurd h (by omega)
def bJz(xs:List El)(z1 z2 x y:Nat):Prop:=∀(R:Type)(k:vT R),bQs spdK jJ aP (rG xs) z1 z2 k xs.length 0 []=k x y 0
theorem aQh{xs:List El}(h0:1<=xs.length)(hm:xs.length<=6)(hf:∀x∈xs,aNy (λ_=>0) x){z1 z2 x y:Nat}(hp:∀(R:Type)(k:KIO R),bNm R z1 z2 k=k 0)(hs:bJz xs z1 z2 x y){c sz:Nat}:
  aD P9 61 [cW 0 xs.length c,.complex .f64 z1 z2] ⟨1,[(0,.cells (cellsOf xs) sz)]⟩ (.tuple ⟨[.complex .f64 x y,.int .i64 0]⟩):=by
 have hL:∀a∈fP (bB 61),LOk P9 (sV spR 100) a:=λa _=>lN bJe aO 100 a
 have h:=bVl xs.length h0 hm (Ex×Env×dF) spdK bNm jJ aP (fJ P9 34 (.int .i64 0)) (rG xs) c sz z1 z2 (λex e O=>some (ex,e,O));rw[hp]at h;simp only[show((0:Int) != 0)=false from rfl,F7]at h;rw[hs]at h;rw[wY,aOi]at h;have hc:=cO (aD.one (b:=0) (H:=⟨3,[(2,.cells [.int .u8 0,.complex .f64 0 0,.complex .f64 0 0,.float .f64 0,aFr 0 xs.length c,bL] 0),(1,.cells [aFr 0 xs.length c] 0),(0,.cells (cellsOf xs) sz)]⟩) (aLl hm hf (c:=c) (sz:=sz)) (cL xs).2.1 (by simp) (args:=[.agg ⟨[aFr 0 xs.length c]⟩]) rfl) (R:=Ex×Env×dF) (k:=some (.ret,spE x y 0,[]));have h':=h.trans hc;exact fK (C:=spR) bJe aO Tryz.func61 b61 hL (kK rfl) h' (.inr rfl) (vs:=[.complex .f64 x y,.int .i64 0]) rfl rfl
abbrev aH5:=∀R:Type,Nat->Nat->(Nat->Nat->Option R)->Option R
def bI8(g:aH5):Sum:=λR args k=>match args with
 |[.float .f64 l,.float .f64 t]=>g R l t λx y=>k (.complex .f64 x y)
 |_=>none
def bAg(tn:bCu):aH5:=λR l t k=>tn R t λs c=>aM (fbF .mul l c) λx=>aM (fbF .mul l s) λy=>k x y
def vX:aH5:=bAg yV
theorem cCb(tn:bCu)(R:Type)(l t:Nat)(k:KVO R):fC (cx P9 [(71,bC0 tn)]) 60 27 [.float .f64 l,.float .f64 t] k=bAg tn R l t λx y=>k (.complex .f64 x y):=by kernel_rfl
theorem bQj:Has P9 27:=⟨Tryz.f27,_,Tryz.func27,by kernel_rfl,rfl⟩
theorem bQo:cH P9 27 (bI8 vX):=dL aO (.cons bIe bH5 .nil) (n:=60) λR args k r hr=>by
 unfold bI8 at hr;split at hr;· exact⟨rfl,(cCb _ R _ _ k).trans hr⟩
 ·cases hr
noncomputable def abA:Code:=sI (bB 48) 0
abbrev bCv:=∀R:Type,V9->Nat->Nat->AH->(Nat->Nat->Option R)->Option R
def bFy(g:bCv):vP:=λR args H k=>match args with
 |[fv,.complex .f64 z1 z2]=>g R fv z1 z2 H λx y=>k (.tuple ⟨[.complex .f64 x y,.int .i64 0]⟩)
 |_=>none
def aWa(f:Nat):V9:=.func (.func f) #[] #[]
noncomputable def abC(f:Nat)(fi:Fi)(st:St)(ap:Ap)(pl:aH5)(ad mu:gU)(ti of:KCC)(gl:List (Nat×vP)):Cx:=
 cxM fi P9 (λ_ _=>none) [(27,bI8 pl),(26,jH ad),(43,jH mu),(16,sCC ti),(f,sCC of)] [] gl [] (aPh oa3 [] st ap)
def abE(f m c n pi:Nat)(k:Int):Env:=[(39,.int .i64 k),(38,.int .i64 n),(13,.slice (some ⟨3,0,none⟩) n n),(5,.pointer (some ⟨2,0,none⟩)),(4,.pointer (some ⟨1,0,none⟩)),(2,.int .i64 n),(11,.float .f64 pi),(3,aWa f)]
def abD(m c c1 c2 r:Nat):dF:=[(2,.cells [.complex .f64 c1 c2,.float .f64 r] 0),(1,.cells [.slice (some ⟨0,0,none⟩) m c] 0)]
section
variable(f:Nat)(fi:Fi)(R:Type)(st:St)(ap:Ap)(pl:aH5)(ad mu:gU)(ti of:KCC)(g:bCv)(cs ts:List V9)(sz m c n k c1 c2 r pi:Nat)(K:Ex->Env->dF->Option R)
def bJ2:Option R:=
  bif decide ((k:Int)<n) then
   bH (U9 .f64 (k:Int)) λa=>aM (fbF .mul 4611686018427387904 a) λa=>aM (fbF .mul a pi) λa=>bH (U9 .f64 (n:Int)) λb=>aM (fbF .quo a b) λt=>
   pl R r t λd1 d2=>ad R c1 c2 d1 d2 λz1 z2=>g R (cW 0 m c) z1 z2 ⟨4,abD m c c1 c2 r++[(3,.cells ts 0),(0,.cells cs sz)]⟩ λx y=>
   of R x y λu1 u2=>ti R d1 d2 λt1 t2=>mu R u1 u2 t1 t2 λq1 q2=>
   bif decide (0<=(k:Int))&&decide ((k:Int)<n)&&true then
    st R ts (0+k*1) [.complex .f64 q1 q2] λts=>fi R (IntKind.i64.wrap (k+1)) λi=>K .normal (abE f m c n pi i) (abD m c c1 c2 r++[(3,.cells ts 0)])
   else none
  else K (.exit 0) (abE f m c n pi k) (abD m c c1 c2 r++[(3,.cells ts 0)])
theorem tP:bE (abC 50 fi st ap pl ad mu ti of [(61,bFy g)]) 60 noL 1 85 abA (abE 50 m c n pi k) ⟨4,abD m c c1 c2 r++[(3,.cells ts 0),(0,.cells cs sz)]⟩ (aU [39,38,13,5,4,2,11,3] [2,1,3] K) =
  bJ2 50 fi R st pl ad mu ti of g cs ts sz m c n k c1 c2 r pi K:=by kernel_rfl
end
def bHv{R:Type}(K:Option (I9×V9)->Env->dF->Option R):Option (I9×V9)->Env->AH->Option R:=λd e H=>K d (aGt [8,9] e) (vL [3] H.objs)
def bQf{R:Type}(t:I9)(v:V9)(F:Option (I9×V9)->Env->AH->Option R):Ex->Env->AH->Option R:=λex e H=>match ex with
 |.exit _=>none
 |_=>F (some (t,v)) e H
def yS(n:Nat):List V9:=tM [.complex .f64 0 0] ((n:Int).toNat*1)
section
variable(f:Nat)(L:qR)(fi:Fi)(R:Type)(st:St)(ap:Ap)(pl:aH5)(ad mu:gU)(ti of:KCC)(g:bCv)(ga gs:HT)(sc:mO)(cs ts:List V9)(sz m c n k c1 c2 r x y:Nat)(K:Option (I9×V9)->Env->dF->Option R)
noncomputable def abT(f:Nat)(fi:Fi)(st:St)(ap:Ap)(pl:aH5)(ad mu:gU)(ti of:KCC)(sc:mO)(fn:KCB)(gl:List (Nat×vP)):Cx:=
 cxM fi P9 (λ_ _=>none) [(27,bI8 pl),(26,jH ad),(43,jH mu),(16,sCC ti),(f,sCC of),(15,tF sc),(91,sCB fn)] [] gl [] (aPh oa3 [] st ap)
variable(fn:KCB)
abbrev abV(n:Nat):V9:=.slice (some ⟨3,0,none⟩) n n
theorem aH8:aNa (abT 50 fi st ap pl ad mu ti of sc fn [(85,bF (.int .i64 0) ga),(44,bF (.complex .f64 x y) gs)]) 1 85 (bE (abT 50 fi st ap pl ad mu ti of sc fn [(85,bF (.int .i64 0) ga),(44,bF (.complex .f64 x y) gs)]) 60 (eS [39,38,13,5,4,2,11,3] [2,1,3,0] L) 1 85) (bHv K) (bB 48) (gX 0 [cW 0 m c,ciV c1 c2 r,.int .i64 n,aWa 50]) ⟨1,[(0,.cells cs sz)]⟩ =
  ga R [cW 0 m c,ciV c1 c2 r] ⟨3,abD m c c1 c2 r++[(0,.cells cs sz)]⟩ (bif decide ((n:Int)<1) then K none [(8,.complex .f64 0 0),(9,.int .i64 2)] [] else bif decide ((n:Int)>16384) then K none [(8,.complex .f64 0 0),(9,.int .i64 2)] [] else
   bif decide (0<=(n:Int))&&decide ((n:Int)<=n)&&decide ((n:Int)<=4294967296)&&decide ((16:Int)*n<=281474976710656) then
    L R 1 85 abA (abE 50 m c n 4614256656552045848 0) ⟨4,abD m c c1 c2 r++[(3,.cells (yS n) 0),(0,.cells cs sz)]⟩
     (fS 0 (jP (λen H=>bE (abT 50 fi st ap pl ad mu ti of sc fn [(85,bF (.int .i64 0) ga),(44,bF (.complex .f64 x y) gs)]) 60 (eS [39,38,13,5,4,2,11,3] [2,1,3,0] L) 1 85 (lJ 7 (bB 48)) en H (bQf 82 (abV n) (bHv K))) (bQf 82 (abV n) (bHv K))))
   else none):=by kernel_rfl
theorem aH7(pi:Nat):bE (abT 50 fi st ap pl ad mu ti of sc fn [(85,bF (.int .i64 0) ga),(44,bF (.complex .f64 x y) gs)]) 60 L 1 85 (lJ 7 (bB 48)) (abE 50 m c n pi k) ⟨4,abD m c c1 c2 r++[(3,.cells ts 0),(0,.cells cs sz)]⟩ (bQf 82 (abV n) (bHv K)) =
  gs R [abV n] ⟨4,abD m c c1 c2 r++[(3,.cells ts 0),(0,.cells cs sz)]⟩ (aM (fbF .mul 4611686018427387904 pi) λa=>bH (U9 .f64 (n:Int)) λb=>aM (fbF .quo a b) λt=>sc R x y t λu v=>fn R u v λt=>
   bif t then K (some (82,abV n)) [(8,.complex .f64 u v),(9,.int .i64 0)] [(3,.cells ts 0)] else K (some (82,abV n)) [(8,.complex .f64 0 0),(9,.int .i64 6)] [(3,.cells ts 0)]):=by kernel_rfl
end
theorem aL6{C:Cx}(hC:C.Ok)(hmix:C.P.follows .mixedOrders=true){n:Nat}{f:FuncId}{fn:Func}{c:Code}(hf:C.P.funcs[f]?=some fn)(hb:fn.body=some c){L:qR}(hL:∀(c':Code),∀a∈fP c',LOk C.P L a){args:List V9}{H:AH}{v:V9}(hl:args.length<=fn.ntmps){fin:Option (I9×V9)->Env->AH->Option V9}(hfin:∀d e H' v,fin d e H'=some v->aOj C.P H.next fn.results.toList (λv _=>some v) d e H'=some v)(h:aNa C H.next fn.ntmps (bE C n L H.next fn.ntmps) fin c (gX 0 args) H=some v)(hfl:flat v=true):aD C.P f args H v:=by
 intro ρ w args' hi ha;obtain⟨d,e',H',h1,h2⟩:=aFt hC (λc e H k r h=>pE hC hmix c (hL c) e H k r h) _ _ _ _ h;have h1:=hfin _ _ _ _ h1;have hlen:=ha.length;have told:∀{ρ':Map}{w':World}{v':V9}{H2:AH}{u:V9},u=v->dW ρ' u v'->Next H.next ρ H w ρ' H2 w'->Ending.returned v'=.returned v/\RowKit.Below w.heap.size w w':=λ{ρ' w' v' H2 u} hu hr hn=>by subst hu;exact⟨by rw[hr.flat_eq hfl],⟨hn.os,hn.tape,hn.output,hn.size,λb hb=>hn.keep b hb λk o s hk hm=>absurd (hi.wf k o hm) (by omega)⟩⟩
 cases d with
 |none=>
  unfold aOj at h1;obtain⟨vs,g1,g2⟩:=aB h1;simp only[Option.some.injEq]at g2;refine mF hf hb (h2 hi (L9 _) (uV ha _) (by simp;omega) rfl _ λρ' a' w' ex hex n1 n2 n3 n4=>?_);obtain⟨v',r1,r2⟩:=oB g1 n1.inv n2;have post:aVq C.P fn (λe w'=>e=.returned v/\RowKit.Below w.heap.size w w') .normal a' w':=.inl ⟨n4,v',r1,told g2 r2 n1⟩;rcases hex with rfl|rfl;· exact post
  ·exact post
 |some d=>
  obtain⟨t,x⟩:=d;unfold aOj at h1;obtain⟨H2,k1,k2⟩:=aB6 h1;obtain⟨vs,g1,g2⟩:=aB k1;simp only[Option.some.injEq]at g2;refine mF hf hb (h2 hi (L9 _) (uV ha _) (by simp;omega) rfl _ λρ' a' w' ex hex n1 n2 n3 n4=>?_);obtain⟨v',ty,cn,d1,d2⟩:=n4;obtain⟨w2,u,c1,c2⟩:=k2 (ty:=ty) n1.inv d2;obtain⟨v2,r1,r2⟩:=oB g1 c2.inv n2;have hinv:(invoke (.builtin .clear #[t] ty cn) #[v']).run C.P w'=.ok (.value u) w2:=by show(builtin .clear #[t] ty cn #[v']).run C.P w'=_;show(do pure (Go.Next.value (<-Builtin.clear_ #[t] ty #[v'])):Sem Go.Next).run C.P w'=_;rw[Sem.run_bind,c1];rfl
  have post:aVq C.P fn (λe w'=>e=.returned v/\RowKit.Below w.heap.size w w') .normal a' w':=.inr ⟨_,_,_,_,_,u,w2,d1,hinv,v2,r1,told g2 r2 (n1.trans c2)⟩;rcases hex with rfl|rfl;· exact post
  ·exact post
theorem bU6{P:Q9}{e:Env}{H H':AH}{r:V9}(h:((aCn P (aGt [8,9] e) H [.tmp 8,.tmp 9]).bind λvs=>some (rH vs))=some r):((aCn P e H' [.tmp 8,.tmp 9]).bind λvs=>some (rH vs))=some r:=by obtain⟨vs,h1,h2⟩:=aB h;simp only[aCn]at h1;obtain⟨a,a1,h1⟩:=aB h1;obtain⟨us,a2,h1⟩:=aB h1;obtain⟨b,b1,a2⟩:=aB a2;simp only[aCn,oR a1,oR b1,Option.bind_some]at h1 a2⊢;cases a2;cases h1;exact h2
theorem aUo{P:Q9}{lo:Nat}{t:I9}{x:V9}{bo:List Nat}{nx:Nat}{H:AH}{k k':AH->Option V9}{r:V9}(hk:∀H1 H2,k H1=some r->k' H2=some r)(h:aB5 P lo ⟨nx,vL bo H.objs⟩ t x k=some r):aB5 P lo H t x k'=some r:=by
 unfold aB5 at h⊢;split at h
 ·rename_i e ad n c hu;cases hn:N9 n 0 with
  |true=>rw[hn]at h;exact hk _ _ h
  |false=>
   rw[hn]at h;simp only[F7]at h⊢;obtain⟨z,hz,h⟩:=aB h;rw[hz,Option.bind_some];split at h
   ·rename_i cs sz hl;rw[zU hl];simp only;cases hb:(bX5 z&&Nat.ble lo ad.block&&ad.spot.isNone&&Nat.ble (ad.off+n) cs.length) with
    |false=>rw[hb]at h;cases h
    |true=>rw[hb]at h;exact hk _ _ h
   ·cases h
 ·cases h
theorem aRp{P:Q9}{lo nx:Nat}{d:Option (I9×V9)}{e:Env}{H:AH}{v:V9}(h:aOj P lo [.tmp 8,.tmp 9] (λv _=>some v) d (aGt [8,9] e) ⟨nx,vL [3] H.objs⟩=some v):aOj P lo [.tmp 8,.tmp 9] (λv _=>some v) d e H=some v:=by
 unfold aOj at h⊢;cases d with
 |none=>exact bU6 h
 |some d=>exact aUo (λH1 H2 h=>bU6 h) h
noncomputable def aQe(P:Q9)(p:Nat×Nat):bCv:=λR fv z1 z2 H k=>
 letI:=Classical.propDecidable
 if aD P 61 [fv,.complex .f64 z1 z2] H (.tuple ⟨[.complex .f64 p.1 p.2,.int .i64 0]⟩) then k p.1 p.2 else none
theorem aKm(p:Nat×Nat):aDn P9 61 (bFy (aQe P9 p)):=λR args H k r h=>by
 unfold bFy at h;split at h
 ·unfold aQe at h;split at h
  ·rename_i hc;exact⟨_,h,rfl,hc⟩
  ·cases h
 ·cases h
theorem aDi{p:Nat×Nat}{R:Type}{fv:V9}{z1 z2:Nat}{H:AH}{k:Nat->Nat->Option R}(h:aD P9 61 [fv,.complex .f64 z1 z2] H (.tuple ⟨[.complex .f64 p.1 p.2,.int .i64 0]⟩)):aQe P9 p R fv z1 z2 H k=k p.1 p.2:=by unfold aQe;rw[if_pos h]
theorem bZh:Has P9 61:=⟨Tryz.f61,_,Tryz.func61,by kernel_rfl,rfl⟩
theorem bXo:Has P9 50:=⟨Tryz.f50,_,Tryz.func50,by kernel_rfl,rfl⟩
theorem cDt:Has P9 85:=⟨Tryz.f85,_,Tryz.func85,by kernel_rfl,rfl⟩
def sqK:KCC:=λR a b k=>dV R a b a b k
theorem cHb(mul:gU)(R:Type)(a b:Nat)(k:KVO R):fC (cx P9 [(43,jH mul)]) 60 50 [.complex .f64 a b] k=mul R a b a b λx y=>k (.complex .f64 x y):=by kernel_rfl
theorem bXv:cH P9 50 (sCC sqK):=aE9 aO (.cons k22 h22 .nil) (cHb _)
end Go.Vm
