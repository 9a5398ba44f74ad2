/- A part of the evaluator and of what is told of floats; no conditions. -/
import Derived.Test.YtnbpfafngidimaaGreatVmZI7
namespace Go.Vm
set_option linter.unusedVariables false
set_option maxRecDepth 1000000

/-! ### The elements -/
def AllP (P : El → Prop) : List El → Prop
  | [] => True
  | x :: r => P x ∧ AllP P r
theorem allP_mem {P : El → Prop} : ∀ {l : List El}, AllP P l → ∀ x ∈ l, P x
  | [], _, x, hx => by simp at hx
  | y :: r, h, x, hx => by
    rcases List.mem_cons.1 hx with rfl | hx
    · exact h.1
    · exact allP_mem h.2 x hx
structure SrcOk (x : El) : Prop where
  w : wSrc CkOk x
  ck : CkOk x
  c : cSrc (fun _ => True) x
  told : Told (fun _ => 0) x

theorem src0 : SrcOk ⟨2, 0, 4613937818241073152, 4607182418800017408, 0, 0⟩ where
  w := ⟨rfl, rfl, fun R k => by kernel_rfl, 0, 13837309855095848960, 4607182418800017408, 9223372036854775808, ⟨rfl, rfl, fun R k => by kernel_rfl⟩, fun R k => by kernel_rfl⟩
  ck := ⟨rfl, rfl, fun R k => by kernel_rfl⟩
  c := ⟨rfl, rfl, fun R k => by kernel_rfl, 0, 4599676419421066581, 4607182418800017408, 9223372036854775808, 13830554455654793216, 0, ⟨trivial, trivial⟩, fun R k => by kernel_rfl⟩
  told := fun R k => by kernel_rfl
theorem src1 : SrcOk ⟨2, 4607182418800017408, 4613937818241073152, 4607182418800017408, 0, 0⟩ where
  w := ⟨rfl, rfl, fun R k => by kernel_rfl, 4607182418800017408, 13837309855095848960, 4607182418800017408, 9223372036854775808, ⟨rfl, rfl, fun R k => by kernel_rfl⟩, fun R k => by kernel_rfl⟩
  ck := ⟨rfl, rfl, fun R k => by kernel_rfl⟩
  c := ⟨rfl, rfl, fun R k => by kernel_rfl, 4591870180066957721, 4599075939470750515, 4607182418800017408, 9223372036854775808, 13830554455654793216, 0, ⟨trivial, trivial⟩, fun R k => by kernel_rfl⟩
  told := fun R k => by kernel_rfl
theorem src2 : SrcOk ⟨2, 4611686018427387904, 4613937818241073152, 4607182418800017408, 0, 0⟩ where
  w := ⟨rfl, rfl, fun R k => by kernel_rfl, 4611686018427387904, 13837309855095848960, 4607182418800017408, 9223372036854775808, ⟨rfl, rfl, fun R k => by kernel_rfl⟩, fun R k => by kernel_rfl⟩
  ck := ⟨rfl, rfl, fun R k => by kernel_rfl⟩
  c := ⟨rfl, rfl, fun R k => by kernel_rfl, 4594710912139606804, 4597482358064142494, 4607182418800017408, 9223372036854775808, 13830554455654793216, 0, ⟨trivial, trivial⟩, fun R k => by kernel_rfl⟩
  told := fun R k => by kernel_rfl
theorem src3 : SrcOk ⟨2, 4613937818241073152, 4613937818241073152, 4607182418800017408, 0, 0⟩ where
  w := ⟨rfl, rfl, fun R k => by kernel_rfl, 4613937818241073152, 13837309855095848960, 4607182418800017408, 9223372036854775808, ⟨rfl, rfl, fun R k => by kernel_rfl⟩, fun R k => by kernel_rfl⟩
  ck := ⟨rfl, rfl, fun R k => by kernel_rfl⟩
  c := ⟨rfl, rfl, fun R k => by kernel_rfl, 4595172819793696085, 4595172819793696085, 4607182418800017408, 9223372036854775808, 13830554455654793216, 0, ⟨trivial, trivial⟩, fun R k => by kernel_rfl⟩
  told := fun R k => by kernel_rfl
theorem src4 : SrcOk ⟨2, 4616189618054758400, 4613937818241073152, 4607182418800017408, 0, 0⟩ where
  w := ⟨rfl, rfl, fun R k => by kernel_rfl, 4616189618054758400, 13837309855095848960, 4607182418800017408, 9223372036854775808, ⟨rfl, rfl, fun R k => by kernel_rfl⟩, fun R k => by kernel_rfl⟩
  ck := ⟨rfl, rfl, fun R k => by kernel_rfl⟩
  c := ⟨rfl, rfl, fun R k => by kernel_rfl, 4594932627813569659, 4593311331947716280, 4607182418800017408, 9223372036854775808, 13830554455654793216, 0, ⟨trivial, trivial⟩, fun R k => by kernel_rfl⟩
  told := fun R k => by kernel_rfl
theorem src5 : SrcOk ⟨2, 4617315517961601024, 4613937818241073152, 4607182418800017408, 0, 0⟩ where
  w := ⟨rfl, rfl, fun R k => by kernel_rfl, 4617315517961601024, 13837309855095848960, 4607182418800017408, 9223372036854775808, ⟨rfl, rfl, fun R k => by kernel_rfl⟩, fun R k => by kernel_rfl⟩
  ck := ⟨rfl, rfl, fun R k => by kernel_rfl⟩
  c := ⟨rfl, rfl, fun R k => by kernel_rfl, 4594466372793324243, 4591022443666511511, 4607182418800017408, 9223372036854775808, 13830554455654793216, 0, ⟨trivial, trivial⟩, fun R k => by kernel_rfl⟩
  told := fun R k => by kernel_rfl
theorem src6 : SrcOk ⟨2, 4618441417868443648, 4613937818241073152, 4607182418800017408, 0, 0⟩ where
  w := ⟨rfl, rfl, fun R k => by kernel_rfl, 4618441417868443648, 13837309855095848960, 4607182418800017408, 9223372036854775808, ⟨rfl, rfl, fun R k => by kernel_rfl⟩, fun R k => by kernel_rfl⟩
  ck := ⟨rfl, rfl, fun R k => by kernel_rfl⟩
  c := ⟨rfl, rfl, fun R k => by kernel_rfl, 4593971859893063953, 4589468260265693457, 4607182418800017408, 9223372036854775808, 13830554455654793216, 0, ⟨trivial, trivial⟩, fun R k => by kernel_rfl⟩
  told := fun R k => by kernel_rfl
theorem src7 : SrcOk ⟨2, 4619567317775286272, 4613937818241073152, 4607182418800017408, 0, 0⟩ where
  w := ⟨rfl, rfl, fun R k => by kernel_rfl, 4619567317775286272, 13837309855095848960, 4607182418800017408, 9223372036854775808, ⟨rfl, rfl, fun R k => by kernel_rfl⟩, fun R k => by kernel_rfl⟩
  ck := ⟨rfl, rfl, fun R k => by kernel_rfl⟩
  c := ⟨rfl, rfl, fun R k => by kernel_rfl, 4593361026840156232, 4587615054901786978, 4607182418800017408, 9223372036854775808, 13830554455654793216, 0, ⟨trivial, trivial⟩, fun R k => by kernel_rfl⟩
  told := fun R k => by kernel_rfl
theorem src8 : SrcOk ⟨2, 4620693217682128896, 4613937818241073152, 4607182418800017408, 0, 0⟩ where
  w := ⟨rfl, rfl, fun R k => by kernel_rfl, 4620693217682128896, 13837309855095848960, 4607182418800017408, 9223372036854775808, ⟨rfl, rfl, fun R k => by kernel_rfl⟩, fun R k => by kernel_rfl⟩
  ck := ⟨rfl, rfl, fun R k => by kernel_rfl⟩
  c := ⟨rfl, rfl, fun R k => by kernel_rfl, 4592561143297458400, 4586083363011514536, 4607182418800017408, 9223372036854775808, 13830554455654793216, 0, ⟨trivial, trivial⟩, fun R k => by kernel_rfl⟩
  told := fun R k => by kernel_rfl
theorem src9 : SrcOk ⟨2, 4621256167635550208, 4613937818241073152, 4607182418800017408, 0, 0⟩ where
  w := ⟨rfl, rfl, fun R k => by kernel_rfl, 4621256167635550208, 13837309855095848960, 4607182418800017408, 9223372036854775808, ⟨rfl, rfl, fun R k => by kernel_rfl⟩, fun R k => by kernel_rfl⟩
  ck := ⟨rfl, rfl, fun R k => by kernel_rfl⟩
  c := ⟨rfl, rfl, fun R k => by kernel_rfl, 4591870180066957722, 4584964660638322961, 4607182418800017408, 9223372036854775808, 13830554455654793216, 0, ⟨trivial, trivial⟩, fun R k => by kernel_rfl⟩
  told := fun R k => by kernel_rfl
theorem src10 : SrcOk ⟨2, 4621819117588971520, 4613937818241073152, 4607182418800017408, 0, 0⟩ where
  w := ⟨rfl, rfl, fun R k => by kernel_rfl, 4621819117588971520, 13837309855095848960, 4607182418800017408, 9223372036854775808, ⟨rfl, rfl, fun R k => by kernel_rfl⟩, fun R k => by kernel_rfl⟩
  ck := ⟨rfl, rfl, fun R k => by kernel_rfl⟩
  c := ⟨rfl, rfl, fun R k => by kernel_rfl, 4591275209107011527, 4583590167541039855, 4607182418800017408, 9223372036854775808, 13830554455654793216, 0, ⟨trivial, trivial⟩, fun R k => by kernel_rfl⟩
  told := fun R k => by kernel_rfl
theorem src11 : SrcOk ⟨2, 4622382067542392832, 4613937818241073152, 4607182418800017408, 0, 0⟩ where
  w := ⟨rfl, rfl, fun R k => by kernel_rfl, 4622382067542392832, 13837309855095848960, 4607182418800017408, 9223372036854775808, ⟨rfl, rfl, fun R k => by kernel_rfl⟩, fun R k => by kernel_rfl⟩
  ck := ⟨rfl, rfl, fun R k => by kernel_rfl⟩
  c := ⟨rfl, rfl, fun R k => by kernel_rfl, 4590761601697143446, 4582308691627309591, 4607182418800017408, 9223372036854775808, 13830554455654793216, 0, ⟨trivial, trivial⟩, fun R k => by kernel_rfl⟩
  told := fun R k => by kernel_rfl
theorem src12 : SrcOk ⟨2, 4622945017495814144, 4613937818241073152, 4607182418800017408, 0, 0⟩ where
  w := ⟨rfl, rfl, fun R k => by kernel_rfl, 4622945017495814144, 13837309855095848960, 4607182418800017408, 9223372036854775808, ⟨rfl, rfl, fun R k => by kernel_rfl⟩, fun R k => by kernel_rfl⟩
  ck := ⟨rfl, rfl, fun R k => by kernel_rfl⟩
  c := ⟨rfl, rfl, fun R k => by kernel_rfl, 4590315996666139668, 4581308797411398676, 4607182418800017408, 9223372036854775808, 13830554455654793216, 0, ⟨trivial, trivial⟩, fun R k => by kernel_rfl⟩
  told := fun R k => by kernel_rfl
theorem src13 : SrcOk ⟨2, 4623507967449235456, 4613937818241073152, 4607182418800017408, 0, 0⟩ where
  w := ⟨rfl, rfl, fun R k => by kernel_rfl, 4623507967449235456, 13837309855095848960, 4607182418800017408, 9223372036854775808, ⟨rfl, rfl, fun R k => by kernel_rfl⟩, fun R k => by kernel_rfl⟩
  ck := ⟨rfl, rfl, fun R k => by kernel_rfl⟩
  c := ⟨rfl, rfl, fun R k => by kernel_rfl, 4589927053935597867, 4580515036736823573, 4607182418800017408, 9223372036854775808, 13830554455654793216, 0, ⟨trivial, trivial⟩, fun R k => by kernel_rfl⟩
  told := fun R k => by kernel_rfl
theorem src14 : SrcOk ⟨2, 4624070917402656768, 4613937818241073152, 4607182418800017408, 0, 0⟩ where
  w := ⟨rfl, rfl, fun R k => by kernel_rfl, 4624070917402656768, 13837309855095848960, 4607182418800017408, 9223372036854775808, ⟨rfl, rfl, fun R k => by kernel_rfl⟩, fun R k => by kernel_rfl⟩
  ck := ⟨rfl, rfl, fun R k => by kernel_rfl⟩
  c := ⟨rfl, rfl, fun R k => by kernel_rfl, 4589585427085267324, 4579589632790371832, 4607182418800017408, 9223372036854775808, 13830554455654793216, 0, ⟨trivial, trivial⟩, fun R k => by kernel_rfl⟩
  told := fun R k => by kernel_rfl
theorem src15 : SrcOk ⟨2, 4624633867356078080, 4613937818241073152, 4607182418800017408, 0, 0⟩ where
  w := ⟨rfl, rfl, fun R k => by kernel_rfl, 4624633867356078080, 13837309855095848960, 4607182418800017408, 9223372036854775808, ⟨rfl, rfl, fun R k => by kernel_rfl⟩, fun R k => by kernel_rfl⟩
  ck := ⟨rfl, rfl, fun R k => by kernel_rfl⟩
  c := ⟨rfl, rfl, fun R k => by kernel_rfl, 4589283497204057745, 4578544144246481947, 4607182418800017408, 9223372036854775808, 13830554455654793216, 0, ⟨trivial, trivial⟩, fun R k => by kernel_rfl⟩
  told := fun R k => by kernel_rfl
theorem src16 : SrcOk ⟨2, 4625196817309499392, 4613937818241073152, 4607182418800017408, 0, 0⟩ where
  w := ⟨rfl, rfl, fun R k => by kernel_rfl, 4625196817309499392, 13837309855095848960, 4607182418800017408, 9223372036854775808, ⟨rfl, rfl, fun R k => by kernel_rfl⟩, fun R k => by kernel_rfl⟩
  ck := ⟨rfl, rfl, fun R k => by kernel_rfl⟩
  c := ⟨rfl, rfl, fun R k => by kernel_rfl, 4588862115410185730, 4577679592561846913, 4607182418800017408, 9223372036854775808, 13830554455654793216, 0, ⟨trivial, trivial⟩, fun R k => by kernel_rfl⟩
  told := fun R k => by kernel_rfl
theorem src17 : SrcOk ⟨2, 4625478292286210048, 4613937818241073152, 4607182418800017408, 0, 0⟩ where
  w := ⟨rfl, rfl, fun R k => by kernel_rfl, 4625478292286210048, 13837309855095848960, 4607182418800017408, 9223372036854775808, ⟨rfl, rfl, fun R k => by kernel_rfl⟩, fun R k => by kernel_rfl⟩
  ck := ⟨rfl, rfl, fun R k => by kernel_rfl⟩
  c := ⟨rfl, rfl, fun R k => by kernel_rfl, 4588382157268309699, 4576956917945181864, 4607182418800017408, 9223372036854775808, 13830554455654793216, 0, ⟨trivial, trivial⟩, fun R k => by kernel_rfl⟩
  told := fun R k => by kernel_rfl
theorem src18 : SrcOk ⟨2, 4625759767262920704, 4613937818241073152, 4607182418800017408, 0, 0⟩ where
  w := ⟨rfl, rfl, fun R k => by kernel_rfl, 4625759767262920704, 13837309855095848960, 4607182418800017408, 9223372036854775808, ⟨rfl, rfl, fun R k => by kernel_rfl⟩, fun R k => by kernel_rfl⟩
  ck := ⟨rfl, rfl, fun R k => by kernel_rfl⟩
  c := ⟨rfl, rfl, fun R k => by kernel_rfl, 4587950831202056912, 4576346961891895093, 4607182418800017408, 9223372036854775808, 13830554455654793216, 0, ⟨trivial, trivial⟩, fun R k => by kernel_rfl⟩
  told := fun R k => by kernel_rfl
theorem src19 : SrcOk ⟨2, 4626041242239631360, 4613937818241073152, 4607182418800017408, 0, 0⟩ where
  w := ⟨rfl, rfl, fun R k => by kernel_rfl, 4626041242239631360, 13837309855095848960, 4607182418800017408, 9223372036854775808, ⟨rfl, rfl, fun R k => by kernel_rfl⟩, fun R k => by kernel_rfl⟩
  ck := ⟨rfl, rfl, fun R k => by kernel_rfl⟩
  c := ⟨rfl, rfl, fun R k => by kernel_rfl, 4587561330693743788, 4575827627880810928, 4607182418800017408, 9223372036854775808, 13830554455654793216, 0, ⟨trivial, trivial⟩, fun R k => by kernel_rfl⟩
  told := fun R k => by kernel_rfl
theorem src20 : SrcOk ⟨2, 4626322717216342016, 4613937818241073152, 4607182418800017408, 0, 0⟩ where
  w := ⟨rfl, rfl, fun R k => by kernel_rfl, 4626322717216342016, 13837309855095848960, 4607182418800017408, 9223372036854775808, ⟨rfl, rfl, fun R k => by kernel_rfl⟩, fun R k => by kernel_rfl⟩
  ck := ⟨rfl, rfl, fun R k => by kernel_rfl⟩
  c := ⟨rfl, rfl, fun R k => by kernel_rfl, 4587208018496716480, 4575106659106789401, 4607182418800017408, 9223372036854775808, 13830554455654793216, 0, ⟨trivial, trivial⟩, fun R k => by kernel_rfl⟩
  told := fun R k => by kernel_rfl
theorem src21 : SrcOk ⟨2, 4626604192193052672, 4613937818241073152, 4607182418800017408, 0, 0⟩ where
  w := ⟨rfl, rfl, fun R k => by kernel_rfl, 4626604192193052672, 13837309855095848960, 4607182418800017408, 9223372036854775808, ⟨rfl, rfl, fun R k => by kernel_rfl⟩, fun R k => by kernel_rfl⟩
  ck := ⟨rfl, rfl, fun R k => by kernel_rfl⟩
  c := ⟨rfl, rfl, fun R k => by kernel_rfl, 4586886196479334373, 4574336165517728591, 4607182418800017408, 9223372036854775808, 13830554455654793216, 0, ⟨trivial, trivial⟩, fun R k => by kernel_rfl⟩
  told := fun R k => by kernel_rfl
theorem src22 : SrcOk ⟨2, 4626885667169763328, 4613937818241073152, 4607182418800017408, 0, 0⟩ where
  w := ⟨rfl, rfl, fun R k => by kernel_rfl, 4626885667169763328, 13837309855095848960, 4607182418800017408, 9223372036854775808, ⟨rfl, rfl, fun R k => by kernel_rfl⟩, fun R k => by kernel_rfl⟩
  ck := ⟨rfl, rfl, fun R k => by kernel_rfl⟩
  c := ⟨rfl, rfl, fun R k => by kernel_rfl, 4586591924763317412, 4573665771674617103, 4607182418800017408, 9223372036854775808, 13830554455654793216, 0, ⟨trivial, trivial⟩, fun R k => by kernel_rfl⟩
  told := fun R k => by kernel_rfl
theorem src23 : SrcOk ⟨2, 4627167142146473984, 4613937818241073152, 4607182418800017408, 0, 0⟩ where
  w := ⟨rfl, rfl, fun R k => by kernel_rfl, 4627167142146473984, 13837309855095848960, 4607182418800017408, 9223372036854775808, ⟨rfl, rfl, fun R k => by kernel_rfl⟩, fun R k => by kernel_rfl⟩
  ck := ⟨rfl, rfl, fun R k => by kernel_rfl⟩
  c := ⟨rfl, rfl, fun R k => by kernel_rfl, 4586321879262085668, 4573078952476769451, 4607182418800017408, 9223372036854775808, 13830554455654793216, 0, ⟨trivial, trivial⟩, fun R k => by kernel_rfl⟩
  told := fun R k => by kernel_rfl
theorem src24 : SrcOk ⟨2, 4627448617123184640, 4613937818241073152, 4607182418800017408, 0, 0⟩ where
  w := ⟨rfl, rfl, fun R k => by kernel_rfl, 4627448617123184640, 13837309855095848960, 4607182418800017408, 9223372036854775808, ⟨rfl, rfl, fun R k => by kernel_rfl⟩, fun R k => by kernel_rfl⟩
  ck := ⟨rfl, rfl, fun R k => by kernel_rfl⟩
  c := ⟨rfl, rfl, fun R k => by kernel_rfl, 4586073239008137237, 4572562440126025749, 4607182418800017408, 9223372036854775808, 13830554455654793216, 0, ⟨trivial, trivial⟩, fun R k => by kernel_rfl⟩
  told := fun R k => by kernel_rfl
theorem src25 : SrcOk ⟨2, 4627730092099895296, 4613937818241073152, 4607182418800017408, 0, 0⟩ where
  w := ⟨rfl, rfl, fun R k => by kernel_rfl, 4627730092099895296, 13837309855095848960, 4607182418800017408, 9223372036854775808, ⟨rfl, rfl, fun R k => by kernel_rfl⟩, fun R k => by kernel_rfl⟩
  ck := ⟨rfl, rfl, fun R k => by kernel_rfl⟩
  c := ⟨rfl, rfl, fun R k => by kernel_rfl, 4585843596590836067, 4572105486686522914, 4607182418800017408, 9223372036854775808, 13830554455654793216, 0, ⟨trivial, trivial⟩, fun R k => by kernel_rfl⟩
  told := fun R k => by kernel_rfl
theorem src26 : SrcOk ⟨2, 4628011567076605952, 4613937818241073152, 4607182418800017408, 0, 0⟩ where
  w := ⟨rfl, rfl, fun R k => by kernel_rfl, 4628011567076605952, 13837309855095848960, 4607182418800017408, 9223372036854775808, ⟨rfl, rfl, fun R k => by kernel_rfl⟩, fun R k => by kernel_rfl⟩
  ck := ⟨rfl, rfl, fun R k => by kernel_rfl⟩
  c := ⟨rfl, rfl, fun R k => by kernel_rfl, 4585630886568600640, 4571699313414734829, 4607182418800017408, 9223372036854775808, 13830554455654793216, 0, ⟨trivial, trivial⟩, fun R k => by kernel_rfl⟩
  told := fun R k => by kernel_rfl
theorem src27 : SrcOk ⟨2, 4628293042053316608, 4613937818241073152, 4607182418800017408, 0, 0⟩ where
  w := ⟨rfl, rfl, fun R k => by kernel_rfl, 4628293042053316608, 13837309855095848960, 4607182418800017408, 9223372036854775808, ⟨rfl, rfl, fun R k => by kernel_rfl⟩, fun R k => by kernel_rfl⟩
  ck := ⟨rfl, rfl, fun R k => by kernel_rfl⟩
  c := ⟨rfl, rfl, fun R k => by kernel_rfl, 4585433327916618428, 4571336694936637606, 4607182418800017408, 9223372036854775808, 13830554455654793216, 0, ⟨trivial, trivial⟩, fun R k => by kernel_rfl⟩
  told := fun R k => by kernel_rfl
theorem src28 : SrcOk ⟨2, 4628574517030027264, 4613937818241073152, 4607182418800017408, 0, 0⟩ where
  w := ⟨rfl, rfl, fun R k => by kernel_rfl, 4628574517030027264, 13837309855095848960, 4607182418800017408, 9223372036854775808, ⟨rfl, rfl, fun R k => by kernel_rfl⟩, fun R k => by kernel_rfl⟩
  ck := ⟨rfl, rfl, fun R k => by kernel_rfl⟩
  c := ⟨rfl, rfl, fun R k => by kernel_rfl, 4585249377487400944, 4570869662157637897, 4607182418800017408, 9223372036854775808, 13830554455654793216, 0, ⟨trivial, trivial⟩, fun R k => by kernel_rfl⟩
  told := fun R k => by kernel_rfl
theorem src29 : SrcOk ⟨2, 4628855992006737920, 4613937818241073152, 4607182418800017408, 0, 0⟩ where
  w := ⟨rfl, rfl, fun R k => by kernel_rfl, 4628855992006737920, 13837309855095848960, 4607182418800017408, 9223372036854775808, ⟨rfl, rfl, fun R k => by kernel_rfl⟩, fun R k => by kernel_rfl⟩
  ck := ⟨rfl, rfl, fun R k => by kernel_rfl⟩
  c := ⟨rfl, rfl, fun R k => by kernel_rfl, 4585077692158382456, 4570284691970596074, 4607182418800017408, 9223372036854775808, 13830554455654793216, 0, ⟨trivial, trivial⟩, fun R k => by kernel_rfl⟩
  told := fun R k => by kernel_rfl
theorem src30 : SrcOk ⟨2, 4629137466983448576, 4613937818241073152, 4607182418800017408, 0, 0⟩ where
  w := ⟨rfl, rfl, fun R k => by kernel_rfl, 4629137466983448576, 13837309855095848960, 4607182418800017408, 9223372036854775808, ⟨rfl, rfl, fun R k => by kernel_rfl⟩, fun R k => by kernel_rfl⟩
  ck := ⟨rfl, rfl, fun R k => by kernel_rfl⟩
  c := ⟨rfl, rfl, fun R k => by kernel_rfl, 4584917097869981094, 4569756465461011108, 4607182418800017408, 9223372036854775808, 13830554455654793216, 0, ⟨trivial, trivial⟩, fun R k => by kernel_rfl⟩
  told := fun R k => by kernel_rfl
theorem src31 : SrcOk ⟨2, 4629418941960159232, 4613937818241073152, 4607182418800017408, 0, 0⟩ where
  w := ⟨rfl, rfl, fun R k => by kernel_rfl, 4629418941960159232, 13837309855095848960, 4607182418800017408, 9223372036854775808, ⟨rfl, rfl, fun R k => by kernel_rfl⟩, fun R k => by kernel_rfl⟩
  ck := ⟨rfl, rfl, fun R k => by kernel_rfl⟩
  c := ⟨rfl, rfl, fun R k => by kernel_rfl, 4584766564159868177, 4569277895750684697, 4607182418800017408, 9223372036854775808, 13830554455654793216, 0, ⟨trivial, trivial⟩, fun R k => by kernel_rfl⟩
  told := fun R k => by kernel_rfl
theorem src32 : SrcOk ⟨2, 4629700416936869888, 4613937818241073152, 4607182418800017408, 0, 0⟩ where
  w := ⟨rfl, rfl, fun R k => by kernel_rfl, 4629700416936869888, 13837309855095848960, 4607182418800017408, 9223372036854775808, ⟨rfl, rfl, fun R k => by kernel_rfl⟩, fun R k => by kernel_rfl⟩
  ck := ⟨rfl, rfl, fun R k => by kernel_rfl⟩
  c := ⟨rfl, rfl, fun R k => by kernel_rfl, 4584585945548651212, 4568842965631482905, 4607182418800017408, 9223372036854775808, 13830554455654793216, 0, ⟨trivial, trivial⟩, fun R k => by kernel_rfl⟩
  told := fun R k => by kernel_rfl
theorem src33 : SrcOk ⟨2, 4629841154425225216, 4613937818241073152, 4607182418800017408, 0, 0⟩ where
  w := ⟨rfl, rfl, fun R k => by kernel_rfl, 4629841154425225216, 13837309855095848960, 4607182418800017408, 9223372036854775808, ⟨rfl, rfl, fun R k => by kernel_rfl⟩, fun R k => by kernel_rfl⟩
  ck := ⟨rfl, rfl, fun R k => by kernel_rfl⟩
  c := ⟨rfl, rfl, fun R k => by kernel_rfl, 4584319882986754070, 4568446540037825273, 4607182418800017408, 9223372036854775808, 13830554455654793216, 0, ⟨trivial, trivial⟩, fun R k => by kernel_rfl⟩
  told := fun R k => by kernel_rfl
theorem src34 : SrcOk ⟨2, 4629981891913580544, 4613937818241073152, 4607182418800017408, 0, 0⟩ where
  w := ⟨rfl, rfl, fun R k => by kernel_rfl, 4629981891913580544, 13837309855095848960, 4607182418800017408, 9223372036854775808, ⟨rfl, rfl, fun R k => by kernel_rfl⟩, fun R k => by kernel_rfl⟩
  ck := ⟨rfl, rfl, fun R k => by kernel_rfl⟩
  c := ⟨rfl, rfl, fun R k => by kernel_rfl, 4584069095047186339, 4568084215683085909, 4607182418800017408, 9223372036854775808, 13830554455654793216, 0, ⟨trivial, trivial⟩, fun R k => by kernel_rfl⟩
  told := fun R k => by kernel_rfl
theorem src35 : SrcOk ⟨2, 4630122629401935872, 4613937818241073152, 4607182418800017408, 0, 0⟩ where
  w := ⟨rfl, rfl, fun R k => by kernel_rfl, 4630122629401935872, 13837309855095848960, 4607182418800017408, 9223372036854775808, ⟨rfl, rfl, fun R k => by kernel_rfl⟩, fun R k => by kernel_rfl⟩
  ck := ⟨rfl, rfl, fun R k => by kernel_rfl⟩
  c := ⟨rfl, rfl, fun R k => by kernel_rfl, 4583832313114509763, 4567752199696199872, 4607182418800017408, 9223372036854775808, 13830554455654793216, 0, ⟨trivial, trivial⟩, fun R k => by kernel_rfl⟩
  told := fun R k => by kernel_rfl
theorem src36 : SrcOk ⟨2, 4630263366890291200, 4613937818241073152, 4607182418800017408, 0, 0⟩ where
  w := ⟨rfl, rfl, fun R k => by kernel_rfl, 4630263366890291200, 13837309855095848960, 4607182418800017408, 9223372036854775808, ⟨rfl, rfl, fun R k => by kernel_rfl⟩, fun R k => by kernel_rfl⟩
  ck := ⟨rfl, rfl, fun R k => by kernel_rfl⟩
  c := ⟨rfl, rfl, fun R k => by kernel_rfl, 4583608404198815984, 4567447211053240480, 4607182418800017408, 9223372036854775808, 13830554455654793216, 0, ⟨trivial, trivial⟩, fun R k => by kernel_rfl⟩
  told := fun R k => by kernel_rfl
theorem src37 : SrcOk ⟨2, 4630404104378646528, 4613937818241073152, 4607182418800017408, 0, 0⟩ where
  w := ⟨rfl, rfl, fun R k => by kernel_rfl, 4630404104378646528, 13837309855095848960, 4607182418800017408, 9223372036854775808, ⟨rfl, rfl, fun R k => by kernel_rfl⟩, fun R k => by kernel_rfl⟩
  ck := ⟨rfl, rfl, fun R k => by kernel_rfl⟩
  c := ⟨rfl, rfl, fun R k => by kernel_rfl, 4583396353424108504, 4567166400049999736, 4607182418800017408, 9223372036854775808, 13830554455654793216, 0, ⟨trivial, trivial⟩, fun R k => by kernel_rfl⟩
  told := fun R k => by kernel_rfl
theorem src38 : SrcOk ⟨2, 4630544841867001856, 4613937818241073152, 4607182418800017408, 0, 0⟩ where
  w := ⟨rfl, rfl, fun R k => by kernel_rfl, 4630544841867001856, 13837309855095848960, 4607182418800017408, 9223372036854775808, ⟨rfl, rfl, fun R k => by kernel_rfl⟩, fun R k => by kernel_rfl⟩
  ck := ⟨rfl, rfl, fun R k => by kernel_rfl⟩
  c := ⟨rfl, rfl, fun R k => by kernel_rfl, 4583195249139852048, 4566907282146161781, 4607182418800017408, 9223372036854775808, 13830554455654793216, 0, ⟨trivial, trivial⟩, fun R k => by kernel_rfl⟩
  told := fun R k => by kernel_rfl
theorem src39 : SrcOk ⟨2, 4630685579355357184, 4613937818241073152, 4607182418800017408, 0, 0⟩ where
  w := ⟨rfl, rfl, fun R k => by kernel_rfl, 4630685579355357184, 13837309855095848960, 4607182418800017408, 9223372036854775808, ⟨rfl, rfl, fun R k => by kernel_rfl⟩, fun R k => by kernel_rfl⟩
  ck := ⟨rfl, rfl, fun R k => by kernel_rfl⟩
  c := ⟨rfl, rfl, fun R k => by kernel_rfl, 4583004270212291098, 4566667683328692240, 4607182418800017408, 9223372036854775808, 13830554455654793216, 0, ⟨trivial, trivial⟩, fun R k => by kernel_rfl⟩
  told := fun R k => by kernel_rfl
theorem src40 : SrcOk ⟨2, 4630826316843712512, 4613937818241073152, 4607182418800017408, 0, 0⟩ where
  w := ⟨rfl, rfl, fun R k => by kernel_rfl, 4630826316843712512, 13837309855095848960, 4607182418800017408, 9223372036854775808, ⟨rfl, rfl, fun R k => by kernel_rfl⟩, fun R k => by kernel_rfl⟩
  ck := ⟨rfl, rfl, fun R k => by kernel_rfl⟩
  c := ⟨rfl, rfl, fun R k => by kernel_rfl, 4582822675135004712, 4566241367370838883, 4607182418800017408, 9223372036854775808, 13830554455654793216, 0, ⟨trivial, trivial⟩, fun R k => by kernel_rfl⟩
  told := fun R k => by kernel_rfl
theorem src41 : SrcOk ⟨2, 4630967054332067840, 4613937818241073152, 4607182418800017408, 0, 0⟩ where
  w := ⟨rfl, rfl, fun R k => by kernel_rfl, 4630967054332067840, 13837309855095848960, 4607182418800017408, 9223372036854775808, ⟨rfl, rfl, fun R k => by kernel_rfl⟩, fun R k => by kernel_rfl⟩
  ck := ⟨rfl, rfl, fun R k => by kernel_rfl⟩
  c := ⟨rfl, rfl, fun R k => by kernel_rfl, 4582649792664175523, 4565829247783724297, 4607182418800017408, 9223372036854775808, 13830554455654793216, 0, ⟨trivial, trivial⟩, fun R k => by kernel_rfl⟩
  told := fun R k => by kernel_rfl
theorem src42 : SrcOk ⟨2, 4631107791820423168, 4613937818241073152, 4607182418800017408, 0, 0⟩ where
  w := ⟨rfl, rfl, fun R k => by kernel_rfl, 4631107791820423168, 13837309855095848960, 4607182418800017408, 9223372036854775808, ⟨rfl, rfl, fun R k => by kernel_rfl⟩, fun R k => by kernel_rfl⟩
  ck := ⟨rfl, rfl, fun R k => by kernel_rfl⟩
  c := ⟨rfl, rfl, fun R k => by kernel_rfl, 4582485013736890881, 4565446014131475603, 4607182418800017408, 9223372036854775808, 13830554455654793216, 0, ⟨trivial, trivial⟩, fun R k => by kernel_rfl⟩
  told := fun R k => by kernel_rfl
theorem src43 : SrcOk ⟨2, 4631248529308778496, 4613937818241073152, 4607182418800017408, 0, 0⟩ where
  w := ⟨rfl, rfl, fun R k => by kernel_rfl, 4631248529308778496, 13837309855095848960, 4607182418800017408, 9223372036854775808, ⟨rfl, rfl, fun R k => by kernel_rfl⟩, fun R k => by kernel_rfl⟩
  ck := ⟨rfl, rfl, fun R k => by kernel_rfl⟩
  c := ⟨rfl, rfl, fun R k => by kernel_rfl, 4582327784473291323, 4565089032831817174, 4607182418800017408, 9223372036854775808, 13830554455654793216, 0, ⟨trivial, trivial⟩, fun R k => by kernel_rfl⟩
  told := fun R k => by kernel_rfl
theorem src44 : SrcOk ⟨2, 4631389266797133824, 4613937818241073152, 4607182418800017408, 0, 0⟩ where
  w := ⟨rfl, rfl, fun R k => by kernel_rfl, 4631389266797133824, 13837309855095848960, 4607182418800017408, 9223372036854775808, ⟨rfl, rfl, fun R k => by kernel_rfl⟩, fun R k => by kernel_rfl⟩
  ck := ⟨rfl, rfl, fun R k => by kernel_rfl⟩
  c := ⟨rfl, rfl, fun R k => by kernel_rfl, 4582177600097717158, 4564755963287261830, 4607182418800017408, 9223372036854775808, 13830554455654793216, 0, ⟨trivial, trivial⟩, fun R k => by kernel_rfl⟩
  told := fun R k => by kernel_rfl
theorem src45 : SrcOk ⟨2, 4631530004285489152, 4613937818241073152, 4607182418800017408, 0, 0⟩ where
  w := ⟨rfl, rfl, fun R k => by kernel_rfl, 4631530004285489152, 13837309855095848960, 4607182418800017408, 9223372036854775808, ⟨rfl, rfl, fun R k => by kernel_rfl⟩, fun R k => by kernel_rfl⟩
  ck := ⟨rfl, rfl, fun R k => by kernel_rfl⟩
  c := ⟨rfl, rfl, fun R k => by kernel_rfl, 4582033999641868886, 4564444719681283232, 4607182418800017408, 9223372036854775808, 13830554455654793216, 0, ⟨trivial, trivial⟩, fun R k => by kernel_rfl⟩
  told := fun R k => by kernel_rfl
theorem src46 : SrcOk ⟨2, 4631670741773844480, 4613937818241073152, 4607182418800017408, 0, 0⟩ where
  w := ⟨rfl, rfl, fun R k => by kernel_rfl, 4631670741773844480, 13837309855095848960, 4607182418800017408, 9223372036854775808, ⟨rfl, rfl, fun R k => by kernel_rfl⟩, fun R k => by kernel_rfl⟩
  ck := ⟨rfl, rfl, fun R k => by kernel_rfl⟩
  c := ⟨rfl, rfl, fun R k => by kernel_rfl, 4581896561315708049, 4564153438454368852, 4607182418800017408, 9223372036854775808, 13830554455654793216, 0, ⟨trivial, trivial⟩, fun R k => by kernel_rfl⟩
  told := fun R k => by kernel_rfl
theorem src47 : SrcOk ⟨2, 4631811479262199808, 4613937818241073152, 4607182418800017408, 0, 0⟩ where
  w := ⟨rfl, rfl, fun R k => by kernel_rfl, 4631811479262199808, 13837309855095848960, 4607182418800017408, 9223372036854775808, ⟨rfl, rfl, fun R k => by kernel_rfl⟩, fun R k => by kernel_rfl⟩
  ck := ⟨rfl, rfl, fun R k => by kernel_rfl⟩
  c := ⟨rfl, rfl, fun R k => by kernel_rfl, 4581764898450412418, 4563880450516291890, 4607182418800017408, 9223372036854775808, 13830554455654793216, 0, ⟨trivial, trivial⟩, fun R k => by kernel_rfl⟩
  told := fun R k => by kernel_rfl
theorem src48 : SrcOk ⟨2, 4631952216750555136, 4613937818241073152, 4607182418800017408, 0, 0⟩ where
  w := ⟨rfl, rfl, fun R k => by kernel_rfl, 4631952216750555136, 13837309855095848960, 4607182418800017408, 9223372036854775808, ⟨rfl, rfl, fun R k => by kernel_rfl⟩, fun R k => by kernel_rfl⟩
  ck := ⟨rfl, rfl, fun R k => by kernel_rfl⟩
  c := ⟨rfl, rfl, fun R k => by kernel_rfl, 4581638655932973077, 4563624257423491093, 4607182418800017408, 9223372036854775808, 13830554455654793216, 0, ⟨trivial, trivial⟩, fun R k => by kernel_rfl⟩
  told := fun R k => by kernel_rfl
theorem src49 : SrcOk ⟨2, 4632092954238910464, 4613937818241073152, 4607182418800017408, 0, 0⟩ where
  w := ⟨rfl, rfl, fun R k => by kernel_rfl, 4632092954238910464, 13837309855095848960, 4607182418800017408, 9223372036854775808, ⟨rfl, rfl, fun R k => by kernel_rfl⟩, fun R k => by kernel_rfl⟩
  ck := ⟨rfl, rfl, fun R k => by kernel_rfl⟩
  c := ⟨rfl, rfl, fun R k => by kernel_rfl, 4581517507064620565, 4563383510888685588, 4607182418800017408, 9223372036854775808, 13830554455654793216, 0, ⟨trivial, trivial⟩, fun R k => by kernel_rfl⟩
  told := fun R k => by kernel_rfl
theorem src50 : SrcOk ⟨2, 4632233691727265792, 4613937818241073152, 4607182418800017408, 0, 0⟩ where
  w := ⟨rfl, rfl, fun R k => by kernel_rfl, 4632233691727265792, 13837309855095848960, 4607182418800017408, 9223372036854775808, ⟨rfl, rfl, fun R k => by kernel_rfl⟩, fun R k => by kernel_rfl⟩
  ck := ⟨rfl, rfl, fun R k => by kernel_rfl⟩
  c := ⟨rfl, rfl, fun R k => by kernel_rfl, 4581401150785699977, 4563156995101126951, 4607182418800017408, 9223372036854775808, 13830554455654793216, 0, ⟨trivial, trivial⟩, fun R k => by kernel_rfl⟩
  told := fun R k => by kernel_rfl
theorem src51 : SrcOk ⟨2, 4632374429215621120, 4613937818241073152, 4607182418800017408, 0, 0⟩ where
  w := ⟨rfl, rfl, fun R k => by kernel_rfl, 4632374429215621120, 13837309855095848960, 4607182418800017408, 9223372036854775808, ⟨rfl, rfl, fun R k => by kernel_rfl⟩, fun R k => by kernel_rfl⟩
  ck := ⟨rfl, rfl, fun R k => by kernel_rfl⟩
  c := ⟨rfl, rfl, fun R k => by kernel_rfl, 4581289309218284970, 4562943611425869984, 4607182418800017408, 9223372036854775808, 13830554455654793216, 0, ⟨trivial, trivial⟩, fun R k => by kernel_rfl⟩
  told := fun R k => by kernel_rfl
theorem src52 : SrcOk ⟨2, 4632515166703976448, 4613937818241073152, 4607182418800017408, 0, 0⟩ where
  w := ⟨rfl, rfl, fun R k => by kernel_rfl, 4632515166703976448, 13837309855095848960, 4607182418800017408, 9223372036854775808, ⟨rfl, rfl, fun R k => by kernel_rfl⟩, fun R k => by kernel_rfl⟩
  ck := ⟨rfl, rfl, fun R k => by kernel_rfl⟩
  c := ⟨rfl, rfl, fun R k => by kernel_rfl, 4581181725485050921, 4562742365123520708, 4607182418800017408, 9223372036854775808, 13830554455654793216, 0, ⟨trivial, trivial⟩, fun R k => by kernel_rfl⟩
  told := fun R k => by kernel_rfl
theorem src53 : SrcOk ⟨2, 4632655904192331776, 4613937818241073152, 4607182418800017408, 0, 0⟩ where
  w := ⟨rfl, rfl, fun R k => by kernel_rfl, 4632655904192331776, 13837309855095848960, 4607182418800017408, 9223372036854775808, ⟨rfl, rfl, fun R k => by kernel_rfl⟩, fun R k => by kernel_rfl⟩
  ck := ⟨rfl, rfl, fun R k => by kernel_rfl⟩
  c := ⟨rfl, rfl, fun R k => by kernel_rfl, 4581078161768977776, 4562552353791519015, 4607182418800017408, 9223372036854775808, 13830554455654793216, 0, ⟨trivial, trivial⟩, fun R k => by kernel_rfl⟩
  told := fun R k => by kernel_rfl
theorem src54 : SrcOk ⟨2, 4632796641680687104, 4613937818241073152, 4607182418800017408, 0, 0⟩ where
  w := ⟨rfl, rfl, fun R k => by kernel_rfl, 4632796641680687104, 13837309855095848960, 4607182418800017408, 9223372036854775808, ⟨rfl, rfl, fun R k => by kernel_rfl⟩, fun R k => by kernel_rfl⟩
  ck := ⟨rfl, rfl, fun R k => by kernel_rfl⟩
  c := ⟨rfl, rfl, fun R k => by kernel_rfl, 4580978397583532461, 4562372757276816196, 4607182418800017408, 9223372036854775808, 13830554455654793216, 0, ⟨trivial, trivial⟩, fun R k => by kernel_rfl⟩
  told := fun R k => by kernel_rfl
theorem src55 : SrcOk ⟨2, 4632937379169042432, 4613937818241073152, 4607182418800017408, 0, 0⟩ where
  w := ⟨rfl, rfl, fun R k => by kernel_rfl, 4632937379169042432, 13837309855095848960, 4607182418800017408, 9223372036854775808, ⟨rfl, rfl, fun R k => by kernel_rfl⟩, fun R k => by kernel_rfl⟩
  ck := ⟨rfl, rfl, fun R k => by kernel_rfl⟩
  c := ⟨rfl, rfl, fun R k => by kernel_rfl, 4580882228227258526, 4562202828849924867, 4607182418800017408, 9223372036854775808, 13830554455654793216, 0, ⟨trivial, trivial⟩, fun R k => by kernel_rfl⟩
  told := fun R k => by kernel_rfl
theorem src56 : SrcOk ⟨2, 4633078116657397760, 4613937818241073152, 4607182418800017408, 0, 0⟩ where
  w := ⟨rfl, rfl, fun R k => by kernel_rfl, 4633078116657397760, 13837309855095848960, 4607182418800017408, 9223372036854775808, ⟨rfl, rfl, fun R k => by kernel_rfl⟩, fun R k => by kernel_rfl⟩
  ck := ⟨rfl, rfl, fun R k => by kernel_rfl⟩
  c := ⟨rfl, rfl, fun R k => by kernel_rfl, 4580789463400314511, 4561937352400526727, 4607182418800017408, 9223372036854775808, 13830554455654793216, 0, ⟨trivial, trivial⟩, fun R k => by kernel_rfl⟩
  told := fun R k => by kernel_rfl
theorem src57 : SrcOk ⟨2, 4633218854145753088, 4613937818241073152, 4607182418800017408, 0, 0⟩ where
  w := ⟨rfl, rfl, fun R k => by kernel_rfl, 4633218854145753088, 13837309855095848960, 4607182418800017408, 9223372036854775808, ⟨rfl, rfl, fun R k => by kernel_rfl⟩, fun R k => by kernel_rfl⟩
  ck := ⟨rfl, rfl, fun R k => by kernel_rfl⟩
  c := ⟨rfl, rfl, fun R k => by kernel_rfl, 4580699925963564381, 4561632199364439574, 4607182418800017408, 9223372036854775808, 13830554455654793216, 0, ⟨trivial, trivial⟩, fun R k => by kernel_rfl⟩
  told := fun R k => by kernel_rfl
theorem src58 : SrcOk ⟨2, 4633359591634108416, 4613937818241073152, 4607182418800017408, 0, 0⟩ where
  w := ⟨rfl, rfl, fun R k => by kernel_rfl, 4633359591634108416, 13837309855095848960, 4607182418800017408, 9223372036854775808, ⟨rfl, rfl, fun R k => by kernel_rfl⟩, fun R k => by kernel_rfl⟩
  ck := ⟨rfl, rfl, fun R k => by kernel_rfl⟩
  c := ⟨rfl, rfl, fun R k => by kernel_rfl, 4580613450823425205, 4561342637475711488, 4607182418800017408, 9223372036854775808, 13830554455654793216, 0, ⟨trivial, trivial⟩, fun R k => by kernel_rfl⟩
  told := fun R k => by kernel_rfl
theorem src59 : SrcOk ⟨2, 4633500329122463744, 4613937818241073152, 4607182418800017408, 0, 0⟩ where
  w := ⟨rfl, rfl, fun R k => by kernel_rfl, 4633500329122463744, 13837309855095848960, 4607182418800017408, 9223372036854775808, ⟨rfl, rfl, fun R k => by kernel_rfl⟩, fun R k => by kernel_rfl⟩
  ck := ⟨rfl, rfl, fun R k => by kernel_rfl⟩
  c := ⟨rfl, rfl, fun R k => by kernel_rfl, 4580529883927894134, 4561067623303251779, 4607182418800017408, 9223372036854775808, 13830554455654793216, 0, ⟨trivial, trivial⟩, fun R k => by kernel_rfl⟩
  told := fun R k => by kernel_rfl
theorem src60 : SrcOk ⟨2, 4633641066610819072, 4613937818241073152, 4607182418800017408, 0, 0⟩ where
  w := ⟨rfl, rfl, fun R k => by kernel_rfl, 4633641066610819072, 13837309855095848960, 4607182418800017408, 9223372036854775808, ⟨rfl, rfl, fun R k => by kernel_rfl⟩, fun R k => by kernel_rfl⟩
  ck := ⟨rfl, rfl, fun R k => by kernel_rfl⟩
  c := ⟨rfl, rfl, fun R k => by kernel_rfl, 4580449081361070848, 4560806199195806515, 4607182418800017408, 9223372036854775808, 13830554455654793216, 0, ⟨trivial, trivial⟩, fun R k => by kernel_rfl⟩
  told := fun R k => by kernel_rfl
theorem src61 : SrcOk ⟨2, 4633781804099174400, 4613937818241073152, 4607182418800017408, 0, 0⟩ where
  w := ⟨rfl, rfl, fun R k => by kernel_rfl, 4633781804099174400, 13837309855095848960, 4607182418800017408, 9223372036854775808, ⟨rfl, rfl, fun R k => by kernel_rfl⟩, fun R k => by kernel_rfl⟩
  ck := ⟨rfl, rfl, fun R k => by kernel_rfl⟩
  c := ⟨rfl, rfl, fun R k => by kernel_rfl, 4580370908525114128, 4560557484963411758, 4607182418800017408, 9223372036854775808, 13830554455654793216, 0, ⟨trivial, trivial⟩, fun R k => by kernel_rfl⟩
  told := fun R k => by kernel_rfl
theorem src62 : SrcOk ⟨2, 4633922541587529728, 4613937818241073152, 4607182418800017408, 0, 0⟩ where
  w := ⟨rfl, rfl, fun R k => by kernel_rfl, 4633922541587529728, 13837309855095848960, 4607182418800017408, 9223372036854775808, ⟨rfl, rfl, fun R k => by kernel_rfl⟩, fun R k => by kernel_rfl⟩
  ck := ⟨rfl, rfl, fun R k => by kernel_rfl⟩
  c := ⟨rfl, rfl, fun R k => by kernel_rfl, 4580295239399964587, 4560320670484279560, 4607182418800017408, 9223372036854775808, 13830554455654793216, 0, ⟨trivial, trivial⟩, fun R k => by kernel_rfl⟩
  told := fun R k => by kernel_rfl
theorem src63 : SrcOk ⟨2, 4634063279075885056, 4613937818241073152, 4607182418800017408, 0, 0⟩ where
  w := ⟨rfl, rfl, fun R k => by kernel_rfl, 4634063279075885056, 13837309855095848960, 4607182418800017408, 9223372036854775808, ⟨rfl, rfl, fun R k => by kernel_rfl⟩, fun R k => by kernel_rfl⟩
  ck := ⟨rfl, rfl, fun R k => by kernel_rfl⟩
  c := ⟨rfl, rfl, fun R k => by kernel_rfl, 4580221955872365072, 4560095009121386520, 4607182418800017408, 9223372036854775808, 13830554455654793216, 0, ⟨trivial, trivial⟩, fun R k => by kernel_rfl⟩
  told := fun R k => by kernel_rfl
theorem src64 : SrcOk ⟨2, 4634204016564240384, 4613937818241073152, 4607182418800017408, 0, 0⟩ where
  w := ⟨rfl, rfl, fun R k => by kernel_rfl, 4634204016564240384, 13837309855095848960, 4607182418800017408, 9223372036854775808, ⟨rfl, rfl, fun R k => by kernel_rfl⟩, fun R k => by kernel_rfl⟩
  ck := ⟨rfl, rfl, fun R k => by kernel_rfl⟩
  c := ⟨rfl, rfl, fun R k => by kernel_rfl, 4580141073217696340, 4559879811849053631, 4607182418800017408, 9223372036854775808, 13830554455654793216, 0, ⟨trivial, trivial⟩, fun R k => by kernel_rfl⟩
  told := fun R k => by kernel_rfl
theorem src65 : SrcOk ⟨2, 4634274385308418048, 4613937818241073152, 4607182418800017408, 0, 0⟩ where
  w := ⟨rfl, rfl, fun R k => by kernel_rfl, 4634274385308418048, 13837309855095848960, 4607182418800017408, 9223372036854775808, ⟨rfl, rfl, fun R k => by kernel_rfl⟩, fun R k => by kernel_rfl⟩
  ck := ⟨rfl, rfl, fun R k => by kernel_rfl⟩
  c := ⟨rfl, rfl, fun R k => by kernel_rfl, 4580003397147071986, 4559674442003400537, 4607182418800017408, 9223372036854775808, 13830554455654793216, 0, ⟨trivial, trivial⟩, fun R k => by kernel_rfl⟩
  told := fun R k => by kernel_rfl
theorem src66 : SrcOk ⟨2, 4634344754052595712, 4613937818241073152, 4607182418800017408, 0, 0⟩ where
  w := ⟨rfl, rfl, fun R k => by kernel_rfl, 4634344754052595712, 13837309855095848960, 4607182418800017408, 9223372036854775808, ⟨rfl, rfl, fun R k => by kernel_rfl⟩, fun R k => by kernel_rfl⟩
  ck := ⟨rfl, rfl, fun R k => by kernel_rfl⟩
  c := ⟨rfl, rfl, fun R k => by kernel_rfl, 4579869866833063966, 4559478310582124566, 4607182418800017408, 9223372036854775808, 13830554455654793216, 0, ⟨trivial, trivial⟩, fun R k => by kernel_rfl⟩
  told := fun R k => by kernel_rfl
theorem src67 : SrcOk ⟨2, 4634415122796773376, 4613937818241073152, 4607182418800017408, 0, 0⟩ where
  w := ⟨rfl, rfl, fun R k => by kernel_rfl, 4634415122796773376, 13837309855095848960, 4607182418800017408, 9223372036854775808, ⟨rfl, rfl, fun R k => by kernel_rfl⟩, fun R k => by kernel_rfl⟩
  ck := ⟨rfl, rfl, fun R k => by kernel_rfl⟩
  c := ⟨rfl, rfl, fun R k => by kernel_rfl, 4579740298171522397, 4559290872028922350, 4607182418800017408, 9223372036854775808, 13830554455654793216, 0, ⟨trivial, trivial⟩, fun R k => by kernel_rfl⟩
  told := fun R k => by kernel_rfl
theorem src68 : SrcOk ⟨2, 4634485491540951040, 4613937818241073152, 4607182418800017408, 0, 0⟩ where
  w := ⟨rfl, rfl, fun R k => by kernel_rfl, 4634485491540951040, 13837309855095848960, 4607182418800017408, 9223372036854775808, ⟨rfl, rfl, fun R k => by kernel_rfl⟩, fun R k => by kernel_rfl⟩
  ck := ⟨rfl, rfl, fun R k => by kernel_rfl⟩
  c := ⟨rfl, rfl, fun R k => by kernel_rfl, 4579614517778599911, 4559111620446310142, 4607182418800017408, 9223372036854775808, 13830554455654793216, 0, ⟨trivial, trivial⟩, fun R k => by kernel_rfl⟩
  told := fun R k => by kernel_rfl
theorem src69 : SrcOk ⟨2, 4634555860285128704, 4613937818241073152, 4607182418800017408, 0, 0⟩ where
  w := ⟨rfl, rfl, fun R k => by kernel_rfl, 4634555860285128704, 13837309855095848960, 4607182418800017408, 9223372036854775808, ⟨rfl, rfl, fun R k => by kernel_rfl⟩, fun R k => by kernel_rfl⟩
  ck := ⟨rfl, rfl, fun R k => by kernel_rfl⟩
  c := ⟨rfl, rfl, fun R k => by kernel_rfl, 4579492362223178433, 4558940086187832321, 4607182418800017408, 9223372036854775808, 13830554455654793216, 0, ⟨trivial, trivial⟩, fun R k => by kernel_rfl⟩
  told := fun R k => by kernel_rfl
theorem src70 : SrcOk ⟨2, 4634626229029306368, 4613937818241073152, 4607182418800017408, 0, 0⟩ where
  w := ⟨rfl, rfl, fun R k => by kernel_rfl, 4634626229029306368, 13837309855095848960, 4607182418800017408, 9223372036854775808, ⟨rfl, rfl, fun R k => by kernel_rfl⟩, fun R k => by kernel_rfl⟩
  ck := ⟨rfl, rfl, fun R k => by kernel_rfl⟩
  c := ⟨rfl, rfl, fun R k => by kernel_rfl, 4579373677324186388, 4558775832786862620, 4607182418800017408, 9223372036854775808, 13830554455654793216, 0, ⟨trivial, trivial⟩, fun R k => by kernel_rfl⟩
  told := fun R k => by kernel_rfl
theorem src71 : SrcOk ⟨2, 4634696597773484032, 4613937818241073152, 4607182418800017408, 0, 0⟩ where
  w := ⟨rfl, rfl, fun R k => by kernel_rfl, 4634696597773484032, 13837309855095848960, 4607182418800017408, 9223372036854775808, ⟨rfl, rfl, fun R k => by kernel_rfl⟩, fun R k => by kernel_rfl⟩
  ck := ⟨rfl, rfl, fun R k => by kernel_rfl⟩
  c := ⟨rfl, rfl, fun R k => by kernel_rfl, 4579258317506507512, 4558618454184554491, 4607182418800017408, 9223372036854775808, 13830554455654793216, 0, ⟨trivial, trivial⟩, fun R k => by kernel_rfl⟩
  told := fun R k => by kernel_rfl
theorem src72 : SrcOk ⟨2, 4634766966517661696, 4613937818241073152, 4607182418800017408, 0, 0⟩ where
  w := ⟨rfl, rfl, fun R k => by kernel_rfl, 4634766966517661696, 13837309855095848960, 4607182418800017408, 9223372036854775808, ⟨rfl, rfl, fun R k => by kernel_rfl⟩, fun R k => by kernel_rfl⟩
  ck := ⟨rfl, rfl, fun R k => by kernel_rfl⟩
  c := ⟨rfl, rfl, fun R k => by kernel_rfl, 4579146145209870403, 4558467572224116098, 4607182418800017408, 9223372036854775808, 13830554455654793216, 0, ⟨trivial, trivial⟩, fun R k => by kernel_rfl⟩
  told := fun R k => by kernel_rfl
theorem src73 : SrcOk ⟨2, 4634837335261839360, 4613937818241073152, 4607182418800017408, 0, 0⟩ where
  w := ⟨rfl, rfl, fun R k => by kernel_rfl, 4634837335261839360, 13837309855095848960, 4607182418800017408, 9223372036854775808, ⟨rfl, rfl, fun R k => by kernel_rfl⟩, fun R k => by kernel_rfl⟩
  ck := ⟨rfl, rfl, fun R k => by kernel_rfl⟩
  c := ⟨rfl, rfl, fun R k => by kernel_rfl, 4579037030345712473, 4558322834382580135, 4607182418800017408, 9223372036854775808, 13830554455654793216, 0, ⟨trivial, trivial⟩, fun R k => by kernel_rfl⟩
  told := fun R k => by kernel_rfl
theorem src74 : SrcOk ⟨2, 4634907704006017024, 4613937818241073152, 4607182418800017408, 0, 0⟩ where
  w := ⟨rfl, rfl, fun R k => by kernel_rfl, 4634907704006017024, 13837309855095848960, 4607182418800017408, 9223372036854775808, ⟨rfl, rfl, fun R k => by kernel_rfl⟩, fun R k => by kernel_rfl⟩
  ck := ⟨rfl, rfl, fun R k => by kernel_rfl⟩
  c := ⟨rfl, rfl, fun R k => by kernel_rfl, 4578930849797544476, 4558183911714700777, 4607182418800017408, 9223372036854775808, 13830554455654793216, 0, ⟨trivial, trivial⟩, fun R k => by kernel_rfl⟩
  told := fun R k => by kernel_rfl
theorem src75 : SrcOk ⟨2, 4634978072750194688, 4613937818241073152, 4607182418800017408, 0, 0⟩ where
  w := ⟨rfl, rfl, fun R k => by kernel_rfl, 4634978072750194688, 13837309855095848960, 4607182418800017408, 9223372036854775808, ⟨rfl, rfl, fun R k => by kernel_rfl⟩, fun R k => by kernel_rfl⟩
  ck := ⟨rfl, rfl, fun R k => by kernel_rfl⟩
  c := ⟨rfl, rfl, fun R k => by kernel_rfl, 4578827486960811473, 4558050496986616597, 4607182418800017408, 9223372036854775808, 13830554455654793216, 0, ⟨trivial, trivial⟩, fun R k => by kernel_rfl⟩
  told := fun R k => by kernel_rfl
theorem src76 : SrcOk ⟨2, 4635048441494372352, 4613937818241073152, 4607182418800017408, 0, 0⟩ where
  w := ⟨rfl, rfl, fun R k => by kernel_rfl, 4635048441494372352, 13837309855095848960, 4607182418800017408, 9223372036854775808, ⟨rfl, rfl, fun R k => by kernel_rfl⟩, fun R k => by kernel_rfl⟩
  ck := ⟨rfl, rfl, fun R k => by kernel_rfl⟩
  c := ⟨rfl, rfl, fun R k => by kernel_rfl, 4578726831318661078, 4557922302979534175, 4607182418800017408, 9223372036854775808, 13830554455654793216, 0, ⟨trivial, trivial⟩, fun R k => by kernel_rfl⟩
  told := fun R k => by kernel_rfl
theorem src77 : SrcOk ⟨2, 4635118810238550016, 4613937818241073152, 4607182418800017408, 0, 0⟩ where
  w := ⟨rfl, rfl, fun R k => by kernel_rfl, 4635118810238550016, 13837309855095848960, 4607182418800017408, 9223372036854775808, ⟨rfl, rfl, fun R k => by kernel_rfl⟩, fun R k => by kernel_rfl⟩
  ck := ⟨rfl, rfl, fun R k => by kernel_rfl⟩
  c := ⟨rfl, rfl, fun R k => by kernel_rfl, 4578628778050397261, 4557799060945967604, 4607182418800017408, 9223372036854775808, 13830554455654793216, 0, ⟨trivial, trivial⟩, fun R k => by kernel_rfl⟩
  told := fun R k => by kernel_rfl
theorem src78 : SrcOk ⟨2, 4635189178982727680, 4613937818241073152, 4607182418800017408, 0, 0⟩ where
  w := ⟨rfl, rfl, fun R k => by kernel_rfl, 4635189178982727680, 13837309855095848960, 4607182418800017408, 9223372036854775808, ⟨rfl, rfl, fun R k => by kernel_rfl⟩, fun R k => by kernel_rfl⟩
  ck := ⟨rfl, rfl, fun R k => by kernel_rfl⟩
  c := ⟨rfl, rfl, fun R k => by kernel_rfl, 4578533227669723559, 4557680519203060760, 4607182418800017408, 9223372036854775808, 13830554455654793216, 0, ⟨trivial, trivial⟩, fun R k => by kernel_rfl⟩
  told := fun R k => by kernel_rfl
theorem src79 : SrcOk ⟨2, 4635259547726905344, 4613937818241073152, 4607182418800017408, 0, 0⟩ where
  w := ⟨rfl, rfl, fun R k => by kernel_rfl, 4635259547726905344, 13837309855095848960, 4607182418800017408, 9223372036854775808, ⟨rfl, rfl, fun R k => by kernel_rfl⟩, fun R k => by kernel_rfl⟩
  ck := ⟨rfl, rfl, fun R k => by kernel_rfl⟩
  c := ⟨rfl, rfl, fun R k => by kernel_rfl, 4578440085690168712, 4557490060799581544, 4607182418800017408, 9223372036854775808, 13830554455654793216, 0, ⟨trivial, trivial⟩, fun R k => by kernel_rfl⟩
  told := fun R k => by kernel_rfl
theorem src80 : SrcOk ⟨2, 4635329916471083008, 4613937818241073152, 4607182418800017408, 0, 0⟩ where
  w := ⟨rfl, rfl, fun R k => by kernel_rfl, 4635329916471083008, 13837309855095848960, 4607182418800017408, 9223372036854775808, ⟨rfl, rfl, fun R k => by kernel_rfl⟩, fun R k => by kernel_rfl⟩
  ck := ⟨rfl, rfl, fun R k => by kernel_rfl⟩
  c := ⟨rfl, rfl, fun R k => by kernel_rfl, 4578349262315344887, 4557270392285350695, 4607182418800017408, 9223372036854775808, 13830554455654793216, 0, ⟨trivial, trivial⟩, fun R k => by kernel_rfl⟩
  told := fun R k => by kernel_rfl
theorem src81 : SrcOk ⟨2, 4635400285215260672, 4613937818241073152, 4607182418800017408, 0, 0⟩ where
  w := ⟨rfl, rfl, fun R k => by kernel_rfl, 4635400285215260672, 13837309855095848960, 4607182418800017408, 9223372036854775808, ⟨rfl, rfl, fun R k => by kernel_rfl⟩, fun R k => by kernel_rfl⟩
  ck := ⟨rfl, rfl, fun R k => by kernel_rfl⟩
  c := ⟨rfl, rfl, fun R k => by kernel_rfl, 4578260672151917565, 4557058794454113996, 4607182418800017408, 9223372036854775808, 13830554455654793216, 0, ⟨trivial, trivial⟩, fun R k => by kernel_rfl⟩
  told := fun R k => by kernel_rfl
theorem src82 : SrcOk ⟨2, 4635470653959438336, 4613937818241073152, 4607182418800017408, 0, 0⟩ where
  w := ⟨rfl, rfl, fun R k => by kernel_rfl, 4635470653959438336, 13837309855095848960, 4607182418800017408, 9223372036854775808, ⟨rfl, rfl, fun R k => by kernel_rfl⟩, fun R k => by kernel_rfl⟩
  ck := ⟨rfl, rfl, fun R k => by kernel_rfl⟩
  c := ⟨rfl, rfl, fun R k => by kernel_rfl, 4578174233943370494, 4556854876907401413, 4607182418800017408, 9223372036854775808, 13830554455654793216, 0, ⟨trivial, trivial⟩, fun R k => by kernel_rfl⟩
  told := fun R k => by kernel_rfl
theorem src83 : SrcOk ⟨2, 4635541022703616000, 4613937818241073152, 4607182418800017408, 0, 0⟩ where
  w := ⟨rfl, rfl, fun R k => by kernel_rfl, 4635541022703616000, 13837309855095848960, 4607182418800017408, 9223372036854775808, ⟨rfl, rfl, fun R k => by kernel_rfl⟩, fun R k => by kernel_rfl⟩
  ck := ⟨rfl, rfl, fun R k => by kernel_rfl⟩
  c := ⟨rfl, rfl, fun R k => by kernel_rfl, 4578089870322831368, 4556658272559992298, 4607182418800017408, 9223372036854775808, 13830554455654793216, 0, ⟨trivial, trivial⟩, fun R k => by kernel_rfl⟩
  told := fun R k => by kernel_rfl
theorem src84 : SrcOk ⟨2, 4635611391447793664, 4613937818241073152, 4607182418800017408, 0, 0⟩ where
  w := ⟨rfl, rfl, fun R k => by kernel_rfl, 4635611391447793664, 13837309855095848960, 4607182418800017408, 9223372036854775808, ⟨rfl, rfl, fun R k => by kernel_rfl⟩, fun R k => by kernel_rfl⟩
  ck := ⟨rfl, rfl, fun R k => by kernel_rfl⟩
  c := ⟨rfl, rfl, fun R k => by kernel_rfl, 4578007507583387137, 4556468635989725185, 4607182418800017408, 9223372036854775808, 13830554455654793216, 0, ⟨trivial, trivial⟩, fun R k => by kernel_rfl⟩
  told := fun R k => by kernel_rfl
theorem src85 : SrcOk ⟨2, 4635681760191971328, 4613937818241073152, 4607182418800017408, 0, 0⟩ where
  w := ⟨rfl, rfl, fun R k => by kernel_rfl, 4635681760191971328, 13837309855095848960, 4607182418800017408, 9223372036854775808, ⟨rfl, rfl, fun R k => by kernel_rfl⟩, fun R k => by kernel_rfl⟩
  ck := ⟨rfl, rfl, fun R k => by kernel_rfl⟩
  c := ⟨rfl, rfl, fun R k => by kernel_rfl, 4577927075464463862, 4556285641921935084, 4607182418800017408, 9223372036854775808, 13830554455654793216, 0, ⟨trivial, trivial⟩, fun R k => by kernel_rfl⟩
  told := fun R k => by kernel_rfl
theorem src86 : SrcOk ⟨2, 4635752128936148992, 4613937818241073152, 4607182418800017408, 0, 0⟩ where
  w := ⟨rfl, rfl, fun R k => by kernel_rfl, 4635752128936148992, 13837309855095848960, 4607182418800017408, 9223372036854775808, ⟨rfl, rfl, fun R k => by kernel_rfl⟩, fun R k => by kernel_rfl⟩
  ck := ⟨rfl, rfl, fun R k => by kernel_rfl⟩
  c := ⟨rfl, rfl, fun R k => by kernel_rfl, 4577848506952977062, 4556108983836115700, 4607182418800017408, 9223372036854775808, 13830554455654793216, 0, ⟨trivial, trivial⟩, fun R k => by kernel_rfl⟩
  told := fun R k => by kernel_rfl
theorem src87 : SrcOk ⟨2, 4635822497680326656, 4613937818241073152, 4607182418800017408, 0, 0⟩ where
  w := ⟨rfl, rfl, fun R k => by kernel_rfl, 4635822497680326656, 13837309855095848960, 4607182418800017408, 9223372036854775808, ⟨rfl, rfl, fun R k => by kernel_rfl⟩, fun R k => by kernel_rfl⟩
  ck := ⟨rfl, rfl, fun R k => by kernel_rfl⟩
  c := ⟨rfl, rfl, fun R k => by kernel_rfl, 4577771738098076117, 4555938372683674259, 4607182418800017408, 9223372036854775808, 13830554455654793216, 0, ⟨trivial, trivial⟩, fun R k => by kernel_rfl⟩
  told := fun R k => by kernel_rfl
theorem src88 : SrcOk ⟨2, 4635892866424504320, 4613937818241073152, 4607182418800017408, 0, 0⟩ where
  w := ⟨rfl, rfl, fun R k => by kernel_rfl, 4635892866424504320, 13837309855095848960, 4607182418800017408, 9223372036854775808, ⟨rfl, rfl, fun R k => by kernel_rfl⟩, fun R k => by kernel_rfl⟩
  ck := ⟨rfl, rfl, fun R k => by kernel_rfl⟩
  c := ⟨rfl, rfl, fun R k => by kernel_rfl, 4577696707838412045, 4555773535706773983, 4607182418800017408, 9223372036854775808, 13830554455654793216, 0, ⟨trivial, trivial⟩, fun R k => by kernel_rfl⟩
  told := fun R k => by kernel_rfl
theorem src89 : SrcOk ⟨2, 4635963235168681984, 4613937818241073152, 4607182418800017408, 0, 0⟩ where
  w := ⟨rfl, rfl, fun R k => by kernel_rfl, 4635963235168681984, 13837309855095848960, 4607182418800017408, 9223372036854775808, ⟨rfl, rfl, fun R k => by kernel_rfl⟩, fun R k => by kernel_rfl⟩
  ck := ⟨rfl, rfl, fun R k => by kernel_rfl⟩
  c := ⟨rfl, rfl, fun R k => by kernel_rfl, 4577623357840953149, 4555614215349261320, 4607182418800017408, 9223372036854775808, 13830554455654793216, 0, ⟨trivial, trivial⟩, fun R k => by kernel_rfl⟩
  told := fun R k => by kernel_rfl
theorem src90 : SrcOk ⟨2, 4636033603912859648, 4613937818241073152, 4607182418800017408, 0, 0⟩ where
  w := ⟨rfl, rfl, fun R k => by kernel_rfl, 4636033603912859648, 13837309855095848960, 4607182418800017408, 9223372036854775808, ⟨rfl, rfl, fun R k => by kernel_rfl⟩, fun R k => by kernel_rfl⟩
  ck := ⟨rfl, rfl, fun R k => by kernel_rfl⟩
  c := ⟨rfl, rfl, fun R k => by kernel_rfl, 4577551632350458807, 4555460168251566684, 4607182418800017408, 9223372036854775808, 13830554455654793216, 0, ⟨trivial, trivial⟩, fun R k => by kernel_rfl⟩
  told := fun R k => by kernel_rfl
theorem src91 : SrcOk ⟨2, 4636103972657037312, 4613937818241073152, 4607182418800017408, 0, 0⟩ where
  w := ⟨rfl, rfl, fun R k => by kernel_rfl, 4636103972657037312, 13837309855095848960, 4607182418800017408, 9223372036854775808, ⟨rfl, rfl, fun R k => by kernel_rfl⟩, fun R k => by kernel_rfl⟩
  ck := ⟨rfl, rfl, fun R k => by kernel_rfl⟩
  c := ⟨rfl, rfl, fun R k => by kernel_rfl, 4577481478048799102, 4555311164322262318, 4607182418800017408, 9223372036854775808, 13830554455654793216, 0, ⟨trivial, trivial⟩, fun R k => by kernel_rfl⟩
  told := fun R k => by kernel_rfl
theorem src92 : SrcOk ⟨2, 4636174341401214976, 4613937818241073152, 4607182418800017408, 0, 0⟩ where
  w := ⟨rfl, rfl, fun R k => by kernel_rfl, 4636174341401214976, 13837309855095848960, 4607182418800017408, 9223372036854775808, ⟨rfl, rfl, fun R k => by kernel_rfl⟩, fun R k => by kernel_rfl⟩
  ck := ⟨rfl, rfl, fun R k => by kernel_rfl⟩
  c := ⟨rfl, rfl, fun R k => by kernel_rfl, 4577412843923377878, 4555166985879669939, 4607182418800017408, 9223372036854775808, 13830554455654793216, 0, ⟨trivial, trivial⟩, fun R k => by kernel_rfl⟩
  told := fun R k => by kernel_rfl
theorem src93 : SrcOk ⟨2, 4636244710145392640, 4613937818241073152, 4607182418800017408, 0, 0⟩ where
  w := ⟨rfl, rfl, fun R k => by kernel_rfl, 4636244710145392640, 13837309855095848960, 4607182418800017408, 9223372036854775808, ⟨rfl, rfl, fun R k => by kernel_rfl⟩, fun R k => by kernel_rfl⟩
  ck := ⟨rfl, rfl, fun R k => by kernel_rfl⟩
  c := ⟨rfl, rfl, fun R k => by kernel_rfl, 4577345681143980027, 4555027426857544533, 4607182418800017408, 9223372036854775808, 13830554455654793216, 0, ⟨trivial, trivial⟩, fun R k => by kernel_rfl⟩
  told := fun R k => by kernel_rfl
theorem src94 : SrcOk ⟨2, 4636315078889570304, 4613937818241073152, 4607182418800017408, 0, 0⟩ where
  w := ⟨rfl, rfl, fun R k => by kernel_rfl, 4636315078889570304, 13837309855095848960, 4607182418800017408, 9223372036854775808, ⟨rfl, rfl, fun R k => by kernel_rfl⟩, fun R k => by kernel_rfl⟩
  ck := ⟨rfl, rfl, fun R k => by kernel_rfl⟩
  c := ⟨rfl, rfl, fun R k => by kernel_rfl, 4577279942947421083, 4554892292069427489, 4607182418800017408, 9223372036854775808, 13830554455654793216, 0, ⟨trivial, trivial⟩, fun R k => by kernel_rfl⟩
  told := fun R k => by kernel_rfl
theorem src95 : SrcOk ⟨2, 4636385447633747968, 4613937818241073152, 4607182418800017408, 0, 0⟩ where
  w := ⟨rfl, rfl, fun R k => by kernel_rfl, 4636385447633747968, 13837309855095848960, 4607182418800017408, 9223372036854775808, ⟨rfl, rfl, fun R k => by kernel_rfl⟩, fun R k => by kernel_rfl⟩
  ck := ⟨rfl, rfl, fun R k => by kernel_rfl⟩
  c := ⟨rfl, rfl, fun R k => by kernel_rfl, 4577215584529429047, 4554761396526769994, 4607182418800017408, 9223372036854775808, 13830554455654793216, 0, ⟨trivial, trivial⟩, fun R k => by kernel_rfl⟩
  told := fun R k => by kernel_rfl
theorem src96 : SrcOk ⟨2, 4636455816377925632, 4613937818241073152, 4607182418800017408, 0, 0⟩ where
  w := ⟨rfl, rfl, fun R k => by kernel_rfl, 4636455816377925632, 13837309855095848960, 4607182418800017408, 9223372036854775808, ⟨rfl, rfl, fun R k => by kernel_rfl⟩, fun R k => by kernel_rfl⟩
  ck := ⟨rfl, rfl, fun R k => by kernel_rfl⟩
  c := ⟨rfl, rfl, fun R k => by kernel_rfl, 4577152562943235408, 4554634564806382928, 4607182418800017408, 9223372036854775808, 13830554455654793216, 0, ⟨trivial, trivial⟩, fun R k => by kernel_rfl⟩
  told := fun R k => by kernel_rfl
theorem src97 : SrcOk ⟨2, 4636526185122103296, 4613937818241073152, 4607182418800017408, 0, 0⟩ where
  w := ⟨rfl, rfl, fun R k => by kernel_rfl, 4636526185122103296, 13837309855095848960, 4607182418800017408, 9223372036854775808, ⟨rfl, rfl, fun R k => by kernel_rfl⟩, fun R k => by kernel_rfl⟩
  ck := ⟨rfl, rfl, fun R k => by kernel_rfl⟩
  c := ⟨rfl, rfl, fun R k => by kernel_rfl, 4577090837004395134, 4554511630463178307, 4607182418800017408, 9223372036854775808, 13830554455654793216, 0, ⟨trivial, trivial⟩, fun R k => by kernel_rfl⟩
  told := fun R k => by kernel_rfl
theorem src98 : SrcOk ⟨2, 4636596553866280960, 4613937818241073152, 4607182418800017408, 0, 0⟩ where
  w := ⟨rfl, rfl, fun R k => by kernel_rfl, 4636596553866280960, 13837309855095848960, 4607182418800017408, 9223372036854775808, ⟨rfl, rfl, fun R k => by kernel_rfl⟩, fun R k => by kernel_rfl⟩
  ck := ⟨rfl, rfl, fun R k => by kernel_rfl⟩
  c := ⟨rfl, rfl, fun R k => by kernel_rfl, 4577030367201394177, 4554392435484534743, 4607182418800017408, 9223372036854775808, 13830554455654793216, 0, ⟨trivial, trivial⟩, fun R k => by kernel_rfl⟩
  told := fun R k => by kernel_rfl
theorem src99 : SrcOk ⟨2, 4636666922610458624, 4613937818241073152, 4607182418800017408, 0, 0⟩ where
  w := ⟨rfl, rfl, fun R k => by kernel_rfl, 4636666922610458624, 13837309855095848960, 4607182418800017408, 9223372036854775808, ⟨rfl, rfl, fun R k => by kernel_rfl⟩, fun R k => by kernel_rfl⟩
  ck := ⟨rfl, rfl, fun R k => by kernel_rfl⟩
  c := ⟨rfl, rfl, fun R k => by kernel_rfl, 4576971115611638448, 4554276829782950058, 4607182418800017408, 9223372036854775808, 13830554455654793216, 0, ⟨trivial, trivial⟩, fun R k => by kernel_rfl⟩
  told := fun R k => by kernel_rfl
theorem src100 : SrcOk ⟨2, 4636737291354636288, 4613937818241073152, 4607182418800017408, 0, 0⟩ where
  w := ⟨rfl, rfl, fun R k => by kernel_rfl, 4636737291354636288, 13837309855095848960, 4607182418800017408, 9223372036854775808, ⟨rfl, rfl, fun R k => by kernel_rfl⟩, fun R k => by kernel_rfl⟩
  ck := ⟨rfl, rfl, fun R k => by kernel_rfl⟩
  c := ⟨rfl, rfl, fun R k => by kernel_rfl, 4576913045822450417, 4554164670723942058, 4607182418800017408, 9223372036854775808, 13830554455654793216, 0, ⟨trivial, trivial⟩, fun R k => by kernel_rfl⟩
  told := fun R k => by kernel_rfl
theorem src101 : SrcOk ⟨2, 4636807660098813952, 4613937818241073152, 4607182418800017408, 0, 0⟩ where
  w := ⟨rfl, rfl, fun R k => by kernel_rfl, 4636807660098813952, 13837309855095848960, 4607182418800017408, 9223372036854775808, ⟨rfl, rfl, fun R k => by kernel_rfl⟩, fun R k => by kernel_rfl⟩
  ck := ⟨rfl, rfl, fun R k => by kernel_rfl⟩
  c := ⟨rfl, rfl, fun R k => by kernel_rfl, 4576856122856728834, 4554055822686427077, 4607182418800017408, 9223372036854775808, 13830554455654793216, 0, ⟨trivial, trivial⟩, fun R k => by kernel_rfl⟩
  told := fun R k => by kernel_rfl
theorem src102 : SrcOk ⟨2, 4636878028842991616, 4613937818241073152, 4607182418800017408, 0, 0⟩ where
  w := ⟨rfl, rfl, fun R k => by kernel_rfl, 4636878028842991616, 13837309855095848960, 4607182418800017408, 9223372036854775808, ⟨rfl, rfl, fun R k => by kernel_rfl⟩, fun R k => by kernel_rfl⟩
  ck := ⟨rfl, rfl, fun R k => by kernel_rfl⟩
  c := ⟨rfl, rfl, fun R k => by kernel_rfl, 4576800313102953871, 4553950156653048425, 4607182418800017408, 9223372036854775808, 13830554455654793216, 0, ⟨trivial, trivial⟩, fun R k => by kernel_rfl⟩
  told := fun R k => by kernel_rfl
theorem src103 : SrcOk ⟨2, 4636948397587169280, 4613937818241073152, 4607182418800017408, 0, 0⟩ where
  w := ⟨rfl, rfl, fun R k => by kernel_rfl, 4636948397587169280, 13837309855095848960, 4607182418800017408, 9223372036854775808, ⟨rfl, rfl, fun R k => by kernel_rfl⟩, fun R k => by kernel_rfl⟩
  ck := ⟨rfl, rfl, fun R k => by kernel_rfl⟩
  c := ⟨rfl, rfl, fun R k => by kernel_rfl, 4576745584249244494, 4553847549828146021, 4607182418800017408, 9223372036854775808, 13830554455654793216, 0, ⟨trivial, trivial⟩, fun R k => by kernel_rfl⟩
  told := fun R k => by kernel_rfl
theorem src104 : SrcOk ⟨2, 4637018766331346944, 4613937818241073152, 4607182418800017408, 0, 0⟩ where
  w := ⟨rfl, rfl, fun R k => by kernel_rfl, 4637018766331346944, 13837309855095848960, 4607182418800017408, 9223372036854775808, ⟨rfl, rfl, fun R k => by kernel_rfl⟩, fun R k => by kernel_rfl⟩
  ck := ⟨rfl, rfl, fun R k => by kernel_rfl⟩
  c := ⟨rfl, rfl, fun R k => by kernel_rfl, 4576691905221197185, 4553747885281256725, 4607182418800017408, 9223372036854775808, 13830554455654793216, 0, ⟨trivial, trivial⟩, fun R k => by kernel_rfl⟩
  told := fun R k => by kernel_rfl
theorem src105 : SrcOk ⟨2, 4637089135075524608, 4613937818241073152, 4607182418800017408, 0, 0⟩ where
  w := ⟨rfl, rfl, fun R k => by kernel_rfl, 4637089135075524608, 13837309855095848960, 4607182418800017408, 9223372036854775808, ⟨rfl, rfl, fun R k => by kernel_rfl⟩, fun R k => by kernel_rfl⟩
  ck := ⟨rfl, rfl, fun R k => by kernel_rfl⟩
  c := ⟨rfl, rfl, fun R k => by kernel_rfl, 4576639246123255675, 4553651051614214432, 4607182418800017408, 9223372036854775808, 13830554455654793216, 0, ⟨trivial, trivial⟩, fun R k => by kernel_rfl⟩
  told := fun R k => by kernel_rfl
theorem src106 : SrcOk ⟨2, 4637159503819702272, 4613937818241073152, 4607182418800017408, 0, 0⟩ where
  w := ⟨rfl, rfl, fun R k => by kernel_rfl, 4637159503819702272, 13837309855095848960, 4607182418800017408, 9223372036854775808, ⟨rfl, rfl, fun R k => by kernel_rfl⟩, fun R k => by kernel_rfl⟩
  ck := ⟨rfl, rfl, fun R k => by kernel_rfl⟩
  c := ⟨rfl, rfl, fun R k => by kernel_rfl, 4576587578183380064, 4553556942650081676, 4607182418800017408, 9223372036854775808, 13830554455654793216, 0, ⟨trivial, trivial⟩, fun R k => by kernel_rfl⟩
  told := fun R k => by kernel_rfl
theorem src107 : SrcOk ⟨2, 4637229872563879936, 4613937818241073152, 4607182418800017408, 0, 0⟩ where
  w := ⟨rfl, rfl, fun R k => by kernel_rfl, 4637229872563879936, 13837309855095848960, 4607182418800017408, 9223372036854775808, ⟨rfl, rfl, fun R k => by kernel_rfl⟩, fun R k => by kernel_rfl⟩
  ck := ⟨rfl, rfl, fun R k => by kernel_rfl⟩
  c := ⟨rfl, rfl, fun R k => by kernel_rfl, 4576536873700800893, 4553465457142292132, 4607182418800017408, 9223372036854775808, 13830554455654793216, 0, ⟨trivial, trivial⟩, fun R k => by kernel_rfl⟩
  told := fun R k => by kernel_rfl
theorem src108 : SrcOk ⟨2, 4637300241308057600, 4613937818241073152, 4607182418800017408, 0, 0⟩ where
  w := ⟨rfl, rfl, fun R k => by kernel_rfl, 4637300241308057600, 13837309855095848960, 4607182418800017408, 9223372036854775808, ⟨rfl, rfl, fun R k => by kernel_rfl⟩, fun R k => by kernel_rfl⟩
  ck := ⟨rfl, rfl, fun R k => by kernel_rfl⟩
  c := ⟨rfl, rfl, fun R k => by kernel_rfl, 4576487105996659517, 4553376498502517473, 4607182418800017408, 9223372036854775808, 13830554455654793216, 0, ⟨trivial, trivial⟩, fun R k => by kernel_rfl⟩
  told := fun R k => by kernel_rfl
theorem src109 : SrcOk ⟨2, 4637370610052235264, 4613937818241073152, 4607182418800017408, 0, 0⟩ where
  w := ⟨rfl, rfl, fun R k => by kernel_rfl, 4637370610052235264, 13837309855095848960, 4607182418800017408, 9223372036854775808, ⟨rfl, rfl, fun R k => by kernel_rfl⟩, fun R k => by kernel_rfl⟩
  ck := ⟨rfl, rfl, fun R k => by kernel_rfl⟩
  c := ⟨rfl, rfl, fun R k => by kernel_rfl, 4576438249367350594, 4553289974545893866, 4607182418800017408, 9223372036854775808, 13830554455654793216, 0, ⟨trivial, trivial⟩, fun R k => by kernel_rfl⟩
  told := fun R k => by kernel_rfl
theorem src110 : SrcOk ⟨2, 4637440978796412928, 4613937818241073152, 4607182418800017408, 0, 0⟩ where
  w := ⟨rfl, rfl, fun R k => by kernel_rfl, 4637440978796412928, 13837309855095848960, 4607182418800017408, 9223372036854775808, ⟨rfl, rfl, fun R k => by kernel_rfl⟩, fun R k => by kernel_rfl⟩
  ck := ⟨rfl, rfl, fun R k => by kernel_rfl⟩
  c := ⟨rfl, rfl, fun R k => by kernel_rfl, 4576390279040395796, 4553205797252354288, 4607182418800017408, 9223372036854775808, 13830554455654793216, 0, ⟨trivial, trivial⟩, fun R k => by kernel_rfl⟩
  told := fun R k => by kernel_rfl
theorem src111 : SrcOk ⟨2, 4637511347540590592, 4613937818241073152, 4607182418800017408, 0, 0⟩ where
  w := ⟨rfl, rfl, fun R k => by kernel_rfl, 4637511347540590592, 13837309855095848960, 4607182418800017408, 9223372036854775808, ⟨rfl, rfl, fun R k => by kernel_rfl⟩, fun R k => by kernel_rfl⟩
  ck := ⟨rfl, rfl, fun R k => by kernel_rfl⟩
  c := ⟨rfl, rfl, fun R k => by kernel_rfl, 4576343171132690099, 4553108541814256037, 4607182418800017408, 9223372036854775808, 13830554455654793216, 0, ⟨trivial, trivial⟩, fun R k => by kernel_rfl⟩
  told := fun R k => by kernel_rfl
theorem src112 : SrcOk ⟨2, 4637581716284768256, 4613937818241073152, 4607182418800017408, 0, 0⟩ where
  w := ⟨rfl, rfl, fun R k => by kernel_rfl, 4637581716284768256, 13837309855095848960, 4607182418800017408, 9223372036854775808, ⟨rfl, rfl, fun R k => by kernel_rfl⟩, fun R k => by kernel_rfl⟩
  ck := ⟨rfl, rfl, fun R k => by kernel_rfl⟩
  c := ⟨rfl, rfl, fun R k => by kernel_rfl, 4576296902610973255, 4552949076868121574, 4607182418800017408, 9223372036854775808, 13830554455654793216, 0, ⟨trivial, trivial⟩, fun R k => by kernel_rfl⟩
  told := fun R k => by kernel_rfl
theorem src113 : SrcOk ⟨2, 4637652085028945920, 4613937818241073152, 4607182418800017408, 0, 0⟩ where
  w := ⟨rfl, rfl, fun R k => by kernel_rfl, 4637652085028945920, 13837309855095848960, 4607182418800017408, 9223372036854775808, ⟨rfl, rfl, fun R k => by kernel_rfl⟩, fun R k => by kernel_rfl⟩
  ck := ⟨rfl, rfl, fun R k => by kernel_rfl⟩
  c := ⟨rfl, rfl, fun R k => by kernel_rfl, 4576251451254389396, 4552793822767985363, 4607182418800017408, 9223372036854775808, 13830554455654793216, 0, ⟨trivial, trivial⟩, fun R k => by kernel_rfl⟩
  told := fun R k => by kernel_rfl
theorem src114 : SrcOk ⟨2, 4637722453773123584, 4613937818241073152, 4607182418800017408, 0, 0⟩ where
  w := ⟨rfl, rfl, fun R k => by kernel_rfl, 4637722453773123584, 13837309855095848960, 4607182418800017408, 9223372036854775808, ⟨rfl, rfl, fun R k => by kernel_rfl⟩, fun R k => by kernel_rfl⟩
  ck := ⟨rfl, rfl, fun R k => by kernel_rfl⟩
  c := ⟨rfl, rfl, fun R k => by kernel_rfl, 4576206795619007325, 4552642632586015954, 4607182418800017408, 9223372036854775808, 13830554455654793216, 0, ⟨trivial, trivial⟩, fun R k => by kernel_rfl⟩
  told := fun R k => by kernel_rfl
theorem src115 : SrcOk ⟨2, 4637792822517301248, 4613937818241073152, 4607182418800017408, 0, 0⟩ where
  w := ⟨rfl, rfl, fun R k => by kernel_rfl, 4637792822517301248, 13837309855095848960, 4607182418800017408, 9223372036854775808, ⟨rfl, rfl, fun R k => by kernel_rfl⟩, fun R k => by kernel_rfl⟩
  ck := ⟨rfl, rfl, fun R k => by kernel_rfl⟩
  c := ⟨rfl, rfl, fun R k => by kernel_rfl, 4576162915004182781, 4552495365745881190, 4607182418800017408, 9223372036854775808, 13830554455654793216, 0, ⟨trivial, trivial⟩, fun R k => by kernel_rfl⟩
  told := fun R k => by kernel_rfl
theorem src116 : SrcOk ⟨2, 4637863191261478912, 4613937818241073152, 4607182418800017408, 0, 0⟩ where
  w := ⟨rfl, rfl, fun R k => by kernel_rfl, 4637863191261478912, 13837309855095848960, 4607182418800017408, 9223372036854775808, ⟨rfl, rfl, fun R k => by kernel_rfl⟩, fun R k => by kernel_rfl⟩
  ck := ⟨rfl, rfl, fun R k => by kernel_rfl⟩
  c := ⟨rfl, rfl, fun R k => by kernel_rfl, 4576119789420652187, 4552351887696166320, 4607182418800017408, 9223372036854775808, 13830554455654793216, 0, ⟨trivial, trivial⟩, fun R k => by kernel_rfl⟩
  told := fun R k => by kernel_rfl
theorem src117 : SrcOk ⟨2, 4637933560005656576, 4613937818241073152, 4607182418800017408, 0, 0⟩ where
  w := ⟨rfl, rfl, fun R k => by kernel_rfl, 4637933560005656576, 13837309855095848960, 4607182418800017408, 9223372036854775808, ⟨rfl, rfl, fun R k => by kernel_rfl⟩, fun R k => by kernel_rfl⟩
  ck := ⟨rfl, rfl, fun R k => by kernel_rfl⟩
  c := ⟨rfl, rfl, fun R k => by kernel_rfl, 4576077399560254823, 4552212069603212221, 4607182418800017408, 9223372036854775808, 13830554455654793216, 0, ⟨trivial, trivial⟩, fun R k => by kernel_rfl⟩
  told := fun R k => by kernel_rfl
theorem src118 : SrcOk ⟨2, 4638003928749834240, 4613937818241073152, 4607182418800017408, 0, 0⟩ where
  w := ⟨rfl, rfl, fun R k => by kernel_rfl, 4638003928749834240, 13837309855095848960, 4607182418800017408, 9223372036854775808, ⟨rfl, rfl, fun R k => by kernel_rfl⟩, fun R k => by kernel_rfl⟩
  ck := ⟨rfl, rfl, fun R k => by kernel_rfl⟩
  c := ⟨rfl, rfl, fun R k => by kernel_rfl, 4576035726767187365, 4552075788062065325, 4607182418800017408, 9223372036854775808, 13830554455654793216, 0, ⟨trivial, trivial⟩, fun R k => by kernel_rfl⟩
  told := fun R k => by kernel_rfl
theorem src119 : SrcOk ⟨2, 4638074297494011904, 4613937818241073152, 4607182418800017408, 0, 0⟩ where
  w := ⟨rfl, rfl, fun R k => by kernel_rfl, 4638074297494011904, 13837309855095848960, 4607182418800017408, 9223372036854775808, ⟨rfl, rfl, fun R k => by kernel_rfl⟩, fun R k => by kernel_rfl⟩
  ck := ⟨rfl, rfl, fun R k => by kernel_rfl⟩
  c := ⟨rfl, rfl, fun R k => by kernel_rfl, 4575994753010701104, 4551942924824329216, 4607182418800017408, 9223372036854775808, 13830554455654793216, 0, ⟨trivial, trivial⟩, fun R k => by kernel_rfl⟩
  told := fun R k => by kernel_rfl
theorem src120 : SrcOk ⟨2, 4638144666238189568, 4613937818241073152, 4607182418800017408, 0, 0⟩ where
  w := ⟨rfl, rfl, fun R k => by kernel_rfl, 4638144666238189568, 13837309855095848960, 4607182418800017408, 9223372036854775808, ⟨rfl, rfl, fun R k => by kernel_rfl⟩, fun R k => by kernel_rfl⟩
  ck := ⟨rfl, rfl, fun R k => by kernel_rfl⟩
  c := ⟨rfl, rfl, fun R k => by kernel_rfl, 4575954460859158154, 4551813366541798006, 4607182418800017408, 9223372036854775808, 13830554455654793216, 0, ⟨trivial, trivial⟩, fun R k => by kernel_rfl⟩
  told := fun R k => by kernel_rfl
theorem src121 : SrcOk ⟨2, 4638215034982367232, 4613937818241073152, 4607182418800017408, 0, 0⟩ where
  w := ⟨rfl, rfl, fun R k => by kernel_rfl, 4638215034982367232, 13837309855095848960, 4607182418800017408, 9223372036854775808, ⟨rfl, rfl, fun R k => by kernel_rfl⟩, fun R k => by kernel_rfl⟩
  ck := ⟨rfl, rfl, fun R k => by kernel_rfl⟩
  c := ⟨rfl, rfl, fun R k => by kernel_rfl, 4575914833455368405, 4551687004524834376, 4607182418800017408, 9223372036854775808, 13830554455654793216, 0, ⟨trivial, trivial⟩, fun R k => by kernel_rfl⟩
  told := fun R k => by kernel_rfl
theorem src122 : SrcOk ⟨2, 4638285403726544896, 4613937818241073152, 4607182418800017408, 0, 0⟩ where
  w := ⟨rfl, rfl, fun R k => by kernel_rfl, 4638285403726544896, 13837309855095848960, 4607182418800017408, 9223372036854775808, ⟨rfl, rfl, fun R k => by kernel_rfl⟩, fun R k => by kernel_rfl⟩
  ck := ⟨rfl, rfl, fun R k => by kernel_rfl⟩
  c := ⟨rfl, rfl, fun R k => by kernel_rfl, 4575875854493134127, 4551563734514531217, 4607182418800017408, 9223372036854775808, 13830554455654793216, 0, ⟨trivial, trivial⟩, fun R k => by kernel_rfl⟩
  told := fun R k => by kernel_rfl
theorem src123 : SrcOk ⟨2, 4638355772470722560, 4613937818241073152, 4607182418800017408, 0, 0⟩ where
  w := ⟨rfl, rfl, fun R k => by kernel_rfl, 4638355772470722560, 13837309855095848960, 4607182418800017408, 9223372036854775808, ⟨rfl, rfl, fun R k => by kernel_rfl⟩, fun R k => by kernel_rfl⟩
  ck := ⟨rfl, rfl, fun R k => by kernel_rfl⟩
  c := ⟨rfl, rfl, fun R k => by kernel_rfl, 4575837508194933813, 4551443456467765681, 4607182418800017408, 9223372036854775808, 13830554455654793216, 0, ⟨trivial, trivial⟩, fun R k => by kernel_rfl⟩
  told := fun R k => by kernel_rfl
theorem src124 : SrcOk ⟨2, 4638426141214900224, 4613937818241073152, 4607182418800017408, 0, 0⟩ where
  w := ⟨rfl, rfl, fun R k => by kernel_rfl, 4638426141214900224, 13837309855095848960, 4607182418800017408, 9223372036854775808, ⟨rfl, rfl, fun R k => by kernel_rfl⟩, fun R k => by kernel_rfl⟩
  ck := ⟨rfl, rfl, fun R k => by kernel_rfl⟩
  c := ⟨rfl, rfl, fun R k => by kernel_rfl, 4575799779290681292, 4551326074354318751, 4607182418800017408, 9223372036854775808, 13830554455654793216, 0, ⟨trivial, trivial⟩, fun R k => by kernel_rfl⟩
  told := fun R k => by kernel_rfl
theorem src125 : SrcOk ⟨2, 4638496509959077888, 4613937818241073152, 4607182418800017408, 0, 0⟩ where
  w := ⟨rfl, rfl, fun R k => by kernel_rfl, 4638496509959077888, 13837309855095848960, 4607182418800017408, 9223372036854775808, ⟨rfl, rfl, fun R k => by kernel_rfl⟩, fun R k => by kernel_rfl⟩
  ck := ⟨rfl, rfl, fun R k => by kernel_rfl⟩
  c := ⟨rfl, rfl, fun R k => by kernel_rfl, 4575762652997500154, 4551211495965292618, 4607182418800017408, 9223372036854775808, 13830554455654793216, 0, ⟨trivial, trivial⟩, fun R k => by kernel_rfl⟩
  told := fun R k => by kernel_rfl
theorem src126 : SrcOk ⟨2, 4638566878703255552, 4613937818241073152, 4607182418800017408, 0, 0⟩ where
  w := ⟨rfl, rfl, fun R k => by kernel_rfl, 4638566878703255552, 13837309855095848960, 4607182418800017408, 9223372036854775808, ⟨rfl, rfl, fun R k => by kernel_rfl⟩, fun R k => by kernel_rfl⟩
  ck := ⟨rfl, rfl, fun R k => by kernel_rfl⟩
  c := ⟨rfl, rfl, fun R k => by kernel_rfl, 4575726115000457366, 4551099632732112636, 4607182418800017408, 9223372036854775808, 13830554455654793216, 0, ⟨trivial, trivial⟩, fun R k => by kernel_rfl⟩
  told := fun R k => by kernel_rfl
theorem src127 : SrcOk ⟨2, 4638637247447433216, 4613937818241073152, 4607182418800017408, 0, 0⟩ where
  w := ⟨rfl, rfl, fun R k => by kernel_rfl, 4638637247447433216, 13837309855095848960, 4607182418800017408, 9223372036854775808, ⟨rfl, rfl, fun R k => by kernel_rfl⟩, fun R k => by kernel_rfl⟩
  ck := ⟨rfl, rfl, fun R k => by kernel_rfl⟩
  c := ⟨rfl, rfl, fun R k => by kernel_rfl, 4575690151434203445, 4550990399555450944, 4607182418800017408, 9223372036854775808, 13830554455654793216, 0, ⟨trivial, trivial⟩, fun R k => by kernel_rfl⟩
  told := fun R k => by kernel_rfl
theorem src128 : SrcOk ⟨2, 0, 4617315517961601024, 0, 0, 0⟩ where
  w := ⟨rfl, rfl, fun R k => by kernel_rfl, 0, 13840687554816376832, 0, 9223372036854775808, ⟨rfl, rfl, fun R k => by kernel_rfl⟩, fun R k => by kernel_rfl⟩
  ck := ⟨rfl, rfl, fun R k => by kernel_rfl⟩
  c := ⟨rfl, rfl, fun R k => by kernel_rfl, 0, 4596373779694328218, 0, 9223372036854775808, 9223372036854775808, 0, ⟨trivial, trivial⟩, fun R k => by kernel_rfl⟩
  told := fun R k => by kernel_rfl
def l1 : List El := [⟨2, 0, 4613937818241073152, 4607182418800017408, 0, 0⟩, ⟨2, 4607182418800017408, 4613937818241073152, 4607182418800017408, 0, 0⟩, ⟨2, 4611686018427387904, 4613937818241073152, 4607182418800017408, 0, 0⟩, ⟨2, 4613937818241073152, 4613937818241073152, 4607182418800017408, 0, 0⟩, ⟨2, 4616189618054758400, 4613937818241073152, 4607182418800017408, 0, 0⟩, ⟨2, 4617315517961601024, 4613937818241073152, 4607182418800017408, 0, 0⟩, ⟨2, 4618441417868443648, 4613937818241073152, 4607182418800017408, 0, 0⟩, ⟨2, 4619567317775286272, 4613937818241073152, 4607182418800017408, 0, 0⟩, ⟨2, 4620693217682128896, 4613937818241073152, 4607182418800017408, 0, 0⟩, ⟨2, 4621256167635550208, 4613937818241073152, 4607182418800017408, 0, 0⟩, ⟨2, 4621819117588971520, 4613937818241073152, 4607182418800017408, 0, 0⟩, ⟨2, 4622382067542392832, 4613937818241073152, 4607182418800017408, 0, 0⟩, ⟨2, 4622945017495814144, 4613937818241073152, 4607182418800017408, 0, 0⟩, ⟨2, 4623507967449235456, 4613937818241073152, 4607182418800017408, 0, 0⟩, ⟨2, 4624070917402656768, 4613937818241073152, 4607182418800017408, 0, 0⟩, ⟨2, 4624633867356078080, 4613937818241073152, 4607182418800017408, 0, 0⟩, ⟨2, 4625196817309499392, 4613937818241073152, 4607182418800017408, 0, 0⟩, ⟨2, 4625478292286210048, 4613937818241073152, 4607182418800017408, 0, 0⟩, ⟨2, 4625759767262920704, 4613937818241073152, 4607182418800017408, 0, 0⟩, ⟨2, 4626041242239631360, 4613937818241073152, 4607182418800017408, 0, 0⟩, ⟨2, 4626322717216342016, 4613937818241073152, 4607182418800017408, 0, 0⟩, ⟨2, 4626604192193052672, 4613937818241073152, 4607182418800017408, 0, 0⟩, ⟨2, 4626885667169763328, 4613937818241073152, 4607182418800017408, 0, 0⟩, ⟨2, 4627167142146473984, 4613937818241073152, 4607182418800017408, 0, 0⟩, ⟨2, 4627448617123184640, 4613937818241073152, 4607182418800017408, 0, 0⟩, ⟨2, 4627730092099895296, 4613937818241073152, 4607182418800017408, 0, 0⟩, ⟨2, 4628011567076605952, 4613937818241073152, 4607182418800017408, 0, 0⟩, ⟨2, 4628293042053316608, 4613937818241073152, 4607182418800017408, 0, 0⟩, ⟨2, 4628574517030027264, 4613937818241073152, 4607182418800017408, 0, 0⟩, ⟨2, 4628855992006737920, 4613937818241073152, 4607182418800017408, 0, 0⟩, ⟨2, 4629137466983448576, 4613937818241073152, 4607182418800017408, 0, 0⟩, ⟨2, 4629418941960159232, 4613937818241073152, 4607182418800017408, 0, 0⟩, ⟨2, 4629700416936869888, 4613937818241073152, 4607182418800017408, 0, 0⟩, ⟨2, 4629841154425225216, 4613937818241073152, 4607182418800017408, 0, 0⟩, ⟨2, 4629981891913580544, 4613937818241073152, 4607182418800017408, 0, 0⟩, ⟨2, 4630122629401935872, 4613937818241073152, 4607182418800017408, 0, 0⟩, ⟨2, 4630263366890291200, 4613937818241073152, 4607182418800017408, 0, 0⟩, ⟨2, 4630404104378646528, 4613937818241073152, 4607182418800017408, 0, 0⟩, ⟨2, 4630544841867001856, 4613937818241073152, 4607182418800017408, 0, 0⟩, ⟨2, 4630685579355357184, 4613937818241073152, 4607182418800017408, 0, 0⟩, ⟨2, 4630826316843712512, 4613937818241073152, 4607182418800017408, 0, 0⟩, ⟨2, 4630967054332067840, 4613937818241073152, 4607182418800017408, 0, 0⟩, ⟨2, 4631107791820423168, 4613937818241073152, 4607182418800017408, 0, 0⟩, ⟨2, 4631248529308778496, 4613937818241073152, 4607182418800017408, 0, 0⟩, ⟨2, 4631389266797133824, 4613937818241073152, 4607182418800017408, 0, 0⟩, ⟨2, 4631530004285489152, 4613937818241073152, 4607182418800017408, 0, 0⟩, ⟨2, 4631670741773844480, 4613937818241073152, 4607182418800017408, 0, 0⟩, ⟨2, 4631811479262199808, 4613937818241073152, 4607182418800017408, 0, 0⟩, ⟨2, 4631952216750555136, 4613937818241073152, 4607182418800017408, 0, 0⟩, ⟨2, 4632092954238910464, 4613937818241073152, 4607182418800017408, 0, 0⟩, ⟨2, 4632233691727265792, 4613937818241073152, 4607182418800017408, 0, 0⟩, ⟨2, 4632374429215621120, 4613937818241073152, 4607182418800017408, 0, 0⟩, ⟨2, 4632515166703976448, 4613937818241073152, 4607182418800017408, 0, 0⟩, ⟨2, 4632655904192331776, 4613937818241073152, 4607182418800017408, 0, 0⟩, ⟨2, 4632796641680687104, 4613937818241073152, 4607182418800017408, 0, 0⟩, ⟨2, 4632937379169042432, 4613937818241073152, 4607182418800017408, 0, 0⟩, ⟨2, 4633078116657397760, 4613937818241073152, 4607182418800017408, 0, 0⟩, ⟨2, 4633218854145753088, 4613937818241073152, 4607182418800017408, 0, 0⟩, ⟨2, 4633359591634108416, 4613937818241073152, 4607182418800017408, 0, 0⟩, ⟨2, 4633500329122463744, 4613937818241073152, 4607182418800017408, 0, 0⟩, ⟨2, 4633641066610819072, 4613937818241073152, 4607182418800017408, 0, 0⟩, ⟨2, 4633781804099174400, 4613937818241073152, 4607182418800017408, 0, 0⟩, ⟨2, 4633922541587529728, 4613937818241073152, 4607182418800017408, 0, 0⟩, ⟨2, 4634063279075885056, 4613937818241073152, 4607182418800017408, 0, 0⟩, ⟨2, 4634204016564240384, 4613937818241073152, 4607182418800017408, 0, 0⟩, ⟨2, 4634274385308418048, 4613937818241073152, 4607182418800017408, 0, 0⟩, ⟨2, 4634344754052595712, 4613937818241073152, 4607182418800017408, 0, 0⟩, ⟨2, 4634415122796773376, 4613937818241073152, 4607182418800017408, 0, 0⟩, ⟨2, 4634485491540951040, 4613937818241073152, 4607182418800017408, 0, 0⟩, ⟨2, 4634555860285128704, 4613937818241073152, 4607182418800017408, 0, 0⟩, ⟨2, 4634626229029306368, 4613937818241073152, 4607182418800017408, 0, 0⟩, ⟨2, 4634696597773484032, 4613937818241073152, 4607182418800017408, 0, 0⟩, ⟨2, 4634766966517661696, 4613937818241073152, 4607182418800017408, 0, 0⟩, ⟨2, 4634837335261839360, 4613937818241073152, 4607182418800017408, 0, 0⟩, ⟨2, 4634907704006017024, 4613937818241073152, 4607182418800017408, 0, 0⟩, ⟨2, 4634978072750194688, 4613937818241073152, 4607182418800017408, 0, 0⟩, ⟨2, 4635048441494372352, 4613937818241073152, 4607182418800017408, 0, 0⟩, ⟨2, 4635118810238550016, 4613937818241073152, 4607182418800017408, 0, 0⟩, ⟨2, 4635189178982727680, 4613937818241073152, 4607182418800017408, 0, 0⟩, ⟨2, 4635259547726905344, 4613937818241073152, 4607182418800017408, 0, 0⟩, ⟨2, 4635329916471083008, 4613937818241073152, 4607182418800017408, 0, 0⟩, ⟨2, 4635400285215260672, 4613937818241073152, 4607182418800017408, 0, 0⟩, ⟨2, 4635470653959438336, 4613937818241073152, 4607182418800017408, 0, 0⟩, ⟨2, 4635541022703616000, 4613937818241073152, 4607182418800017408, 0, 0⟩, ⟨2, 4635611391447793664, 4613937818241073152, 4607182418800017408, 0, 0⟩, ⟨2, 4635681760191971328, 4613937818241073152, 4607182418800017408, 0, 0⟩, ⟨2, 4635752128936148992, 4613937818241073152, 4607182418800017408, 0, 0⟩, ⟨2, 4635822497680326656, 4613937818241073152, 4607182418800017408, 0, 0⟩, ⟨2, 4635892866424504320, 4613937818241073152, 4607182418800017408, 0, 0⟩, ⟨2, 4635963235168681984, 4613937818241073152, 4607182418800017408, 0, 0⟩, ⟨2, 4636033603912859648, 4613937818241073152, 4607182418800017408, 0, 0⟩, ⟨2, 4636103972657037312, 4613937818241073152, 4607182418800017408, 0, 0⟩, ⟨2, 4636174341401214976, 4613937818241073152, 4607182418800017408, 0, 0⟩, ⟨2, 4636244710145392640, 4613937818241073152, 4607182418800017408, 0, 0⟩, ⟨2, 4636315078889570304, 4613937818241073152, 4607182418800017408, 0, 0⟩, ⟨2, 4636385447633747968, 4613937818241073152, 4607182418800017408, 0, 0⟩, ⟨2, 4636455816377925632, 4613937818241073152, 4607182418800017408, 0, 0⟩, ⟨2, 4636526185122103296, 4613937818241073152, 4607182418800017408, 0, 0⟩, ⟨2, 4636596553866280960, 4613937818241073152, 4607182418800017408, 0, 0⟩, ⟨2, 4636666922610458624, 4613937818241073152, 4607182418800017408, 0, 0⟩, ⟨2, 4636737291354636288, 4613937818241073152, 4607182418800017408, 0, 0⟩, ⟨2, 4636807660098813952, 4613937818241073152, 4607182418800017408, 0, 0⟩, ⟨2, 4636878028842991616, 4613937818241073152, 4607182418800017408, 0, 0⟩, ⟨2, 4636948397587169280, 4613937818241073152, 4607182418800017408, 0, 0⟩, ⟨2, 4637018766331346944, 4613937818241073152, 4607182418800017408, 0, 0⟩, ⟨2, 4637089135075524608, 4613937818241073152, 4607182418800017408, 0, 0⟩, ⟨2, 4637159503819702272, 4613937818241073152, 4607182418800017408, 0, 0⟩, ⟨2, 4637229872563879936, 4613937818241073152, 4607182418800017408, 0, 0⟩, ⟨2, 4637300241308057600, 4613937818241073152, 4607182418800017408, 0, 0⟩, ⟨2, 4637370610052235264, 4613937818241073152, 4607182418800017408, 0, 0⟩, ⟨2, 4637440978796412928, 4613937818241073152, 4607182418800017408, 0, 0⟩, ⟨2, 4637511347540590592, 4613937818241073152, 4607182418800017408, 0, 0⟩, ⟨2, 4637581716284768256, 4613937818241073152, 4607182418800017408, 0, 0⟩, ⟨2, 4637652085028945920, 4613937818241073152, 4607182418800017408, 0, 0⟩, ⟨2, 4637722453773123584, 4613937818241073152, 4607182418800017408, 0, 0⟩, ⟨2, 4637792822517301248, 4613937818241073152, 4607182418800017408, 0, 0⟩, ⟨2, 4637863191261478912, 4613937818241073152, 4607182418800017408, 0, 0⟩, ⟨2, 4637933560005656576, 4613937818241073152, 4607182418800017408, 0, 0⟩, ⟨2, 4638003928749834240, 4613937818241073152, 4607182418800017408, 0, 0⟩, ⟨2, 4638074297494011904, 4613937818241073152, 4607182418800017408, 0, 0⟩, ⟨2, 4638144666238189568, 4613937818241073152, 4607182418800017408, 0, 0⟩, ⟨2, 4638215034982367232, 4613937818241073152, 4607182418800017408, 0, 0⟩, ⟨2, 4638285403726544896, 4613937818241073152, 4607182418800017408, 0, 0⟩, ⟨2, 4638355772470722560, 4613937818241073152, 4607182418800017408, 0, 0⟩, ⟨2, 4638426141214900224, 4613937818241073152, 4607182418800017408, 0, 0⟩, ⟨2, 4638496509959077888, 4613937818241073152, 4607182418800017408, 0, 0⟩, ⟨2, 4638566878703255552, 4613937818241073152, 4607182418800017408, 0, 0⟩, ⟨2, 4638637247447433216, 4613937818241073152, 4607182418800017408, 0, 0⟩]
theorem l1_ok : AllP SrcOk l1 := ⟨src0, src1, src2, src3, src4, src5, src6, src7, src8, src9, src10, src11, src12, src13, src14, src15, src16, src17, src18, src19, src20, src21, src22, src23, src24, src25, src26, src27, src28, src29, src30, src31, src32, src33, src34, src35, src36, src37, src38, src39, src40, src41, src42, src43, src44, src45, src46, src47, src48, src49, src50, src51, src52, src53, src54, src55, src56, src57, src58, src59, src60, src61, src62, src63, src64, src65, src66, src67, src68, src69, src70, src71, src72, src73, src74, src75, src76, src77, src78, src79, src80, src81, src82, src83, src84, src85, src86, src87, src88, src89, src90, src91, src92, src93, src94, src95, src96, src97, src98, src99, src100, src101, src102, src103, src104, src105, src106, src107, src108, src109, src110, src111, src112, src113, src114, src115, src116, src117, src118, src119, src120, src121, src122, src123, src124, src125, src126, src127, trivial⟩
def lastS : El := ⟨2, 0, 4617315517961601024, 0, 0, 0⟩
def lastT : El := ⟨1, 0, 0, 0, 0, 0⟩
theorem str_w : wStr (fun _ => True) lastT := ⟨rfl, rfl, trivial⟩
theorem str_l : wlStr lastT := ⟨rfl, rfl, 4607182418800017408, 9223372036854775808, 0, 0, 0, 9223372036854775808, fun R k => by kernel_rfl, fun R k => by kernel_rfl, fun R k => by kernel_rfl⟩
theorem str_c : cStr (fun _ => True) lastT := ⟨rfl, rfl, 0, 9223372036854775808, 0, 9223372036854775808, trivial, fun R k => by kernel_rfl, fun R k => by kernel_rfl⟩
theorem str_t : Told (fun _ => 0) lastT := fun R k => by kernel_rfl
end Go.Vm
