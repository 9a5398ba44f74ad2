/- A part of the evaluator and of what is told of floats; no conditions. -/
import Derived.Test.YtaogignikkjkjaaGreatVmRA7
import Derived.Test.YtaogignikkjkjaaGreatVmWB6
import Derived.Deep.Slices
import Derived.Carry
import Derived.Lib.SmallJoins
import Derived.ProofKit
import Derived.OpenShut
set_option linter.unusedSimpArgs false
set_option maxRecDepth 1000000
set_option linter.unusedVariables false
set_option linter.unusedSectionVars false
namespace Go.Vm
open Go.Proofs
def fTwo:List Value:=[.int .u8 2,.complex .f64 0 0,.complex .f64 4611686018427387904 13837309855095848960,.float .f64 0,.int .u8 1,.complex .f64 0 0,.complex .f64 4607182418800017408 0,.float .f64 0]
def placeU0:List (Nat×Nat×Nat):=[(0,4611686018427387904,0),(4589191932824463130,4611668244777157630,4593692554056209274),(4593695532451833626,4611614993970944259,4598187225549724640),(4595959288532482726,4611526476165351935,4600422743266261625),(4598199132079204122,4611403040699719392,4602631617383237527),(4599331010119528672,4611245174717437183,4603741974828149071),(4600462888159853222,4611053501243415269,4604806761938463000),(4601594766200177773,4610828776725288332,4605845377380614556),(4602702731706574618,4610571888048062553,4606853722213951825),(4603268670726736893,4610283849033985670,4607505117881051984),(4603834609746899168,4609965796441453736,4607973118059043422),(4604400548767061443,4609618985478745066,4608420224058065339),(4604966487787223718,4609244784850286614,4608844671355002899),(4605532426807385994,4608844671355002900,4609244784850286614),(4606098365827548269,4608420224058065340,4609618985478745065),(4606664304847710543,4607973118059043424,4609965796441453735),(4607206331333945114,4607505117881051984,4610283849033985670),(4607489300844026252,4606853722213951824,4610571888048062554),(4607772270354107389,4605845377380614556,4610828776725288332),(4608055239864188526,4604806761938463003,4611053501243415268),(4608338209374269664,4603741974828149072,4611245174717437183),(4608621178884350802,4602631617383237525,4611403040699719392),(4608904148394431939,4600422743266261629,4611526476165351934),(4609187117904513076,4598187225549724648,4611614993970944258),(4609470087414594214,4593692554056209284,4611668244777157630)]
def placeU1:List (Nat×Nat×Nat):=[(4609753056924675352,4368955796522032128,4611686018427387904),(4610036026434756490,13817064590910985084,4611668244777157630),(4610318995944837627,13821559262404500444,4611614993970944259),(4610601965454918765,13823794780121037433,4611526476165351935),(4610884934964999903,13826003654238013337,4611403040699719392),(4611167904475081039,13827114011682924874,4611245174717437184),(4611450873985162177,13828178798793238806,4611053501243415269),(4611709930961315610,13829217414235390366,4610828776725288331),(4611851415716356179,13830225759068727635,4610571888048062552),(4611992900471396748,13830877154735827794,4610283849033985669),(4612134385226437316,13831345154913819229,4609965796441453736),(4612275869981477885,13831792260912841147,4609618985478745066),(4612417354736518454,13832216708209778708,4609244784850286614),(4612558839491559022,13832616821705062420,4608844671355002901),(4612700324246599591,13832991022333520873,4608420224058065341),(4612841809001640160,13833337833296229543,4607973118059043423),(4612983293756680728,13833655885888761476,4607505117881051988),(4613124778511721298,13833943924902838362,4606853722213951824),(4613266263266761866,13834200813580064138,4605845377380614560),(4613407748021802435,13834425538098191076,4604806761938463004),(4613549232776843004,13834617211572212991,4603741974828149073),(4613690717531883572,13834775077554495199,4602631617383237541),(4613832202286924142,13834898513020127743,4600422743266261623),(4613973687041964710,13834987030825720066,4598187225549724650),(4614115171797005279,13835040281631933438,4593692554056209289)]
def placeU2:List (Nat×Nat×Nat):=[(4614256656552045848,13835058055282163712,4373459396149402624),(4614398141307086417,13835040281631933438,13817064590910985079),(4614539626062126986,13834987030825720067,13821559262404500450),(4614681110817167555,13834898513020127742,13823794780121037439),(4614822595572208123,13834775077554495201,13826003654238013327),(4614964080327248692,13834617211572212992,13827114011682924877),(4615105565082289261,13834425538098191077,13828178798793238808),(4615247049837329829,13834200813580064141,13829217414235390357),(4615388534592370399,13833943924902838360,13830225759068727635),(4615530019347410967,13833655885888761479,13830877154735827791),(4615671504102451535,13833337833296229547,13831345154913819226),(4615812988857492105,13832991022333520874,13831792260912841147),(4615954473612532673,13832616821705062424,13832216708209778705),(4616095958367573243,13832216708209778707,13832616821705062422),(4616213530588686106,13831792260912841146,13832991022333520875),(4616284272966206390,13831345154913819232,13833337833296229543),(4616355015343726675,13830877154735827790,13833655885888761480),(4616425757721246959,13830225759068727633,13833943924902838361),(4616496500098767244,13829217414235390354,13834200813580064142),(4616567242476287528,13828178798793238806,13834425538098191077),(4616637984853807812,13827114011682924882,13834617211572212991),(4616708727231328097,13826003654238013321,13834775077554495201),(4616779469608848381,13823794780121037434,13834898513020127743),(4616850211986368665,13821559262404500461,13834987030825720066),(4616920954363888950,13817064590910985069,13835040281631933438)]
def placeU3:List (Nat×Nat×Nat):=[(4616991696741409234,13599315311804189184,13835058055282163712),(4617062439118929518,4593692554056209235,13835040281631933438),(4617133181496449803,4598187225549724639,13834987030825720067),(4617203923873970087,4600422743266261612,13834898513020127743),(4617274666251490372,4602631617383237532,13834775077554495200),(4617345408629010656,4603741974828149068,13834617211572212992),(4617416151006530940,4604806761938462992,13834425538098191078),(4617486893384051224,4605845377380614541,13834200813580064143),(4617557635761571510,4606853722213951833,13833943924902838359),(4617628378139091794,4607505117881051985,13833655885888761478),(4617699120516612078,4607973118059043420,13833337833296229545),(4617769862894132362,4608420224058065335,13832991022333520877),(4617840605271652646,4608844671355002894,13832616821705062428),(4617911347649172931,4609244784850286612,13832216708209778710),(4617982090026693216,4609618985478745067,13831792260912841146),(4618052832404213500,4609965796441453735,13831345154913819232),(4618123574781733784,4610283849033985667,13830877154735827797),(4618194317159254068,4610571888048062549,13830225759068727647),(4618265059536774353,4610828776725288330,13829217414235390370),(4618335801914294638,4611053501243415269,13828178798793238807),(4618406544291814922,4611245174717437183,13827114011682924883),(4618477286669335206,4611403040699719391,13826003654238013353),(4618548029046855491,4611526476165351935,13823794780121037436),(4618618771424375775,4611614993970944258,13821559262404500463),(4618689513801896060,4611668244777157630,13817064590910985074)]
def speedU0:List (Nat×Nat×Nat×Nat):=[(4611686018427387904,0,4607899188942420240,13821141298854145220),(4611668244777157630,4593692554056209274,4607830265005837912,13821484377225396203),(4611614993970944259,4598187225549724640,4607758784316253989,13821669706425807233),(4611526476165351935,4600422743266261625,4607685028975293837,13821805339134350421),(4611403040699719392,4602631617383237527,4607609290061592616,13821922179658017844),(4611245174717437183,4603741974828149071,4607531866482040888,13822019766880641946),(4611053501243415269,4604806761938463000,4607453063792135672,13822097715670038392),(4610828776725288332,4605845377380614556,4607373192990092501,13822155718397946848),(4610571888048062553,4606853722213951825,4607292569289477540,13822193546154099185),(4610283849033985670,4607505117881051984,4607211510875203652,13822211049649623727),(4609965796441453736,4607973118059043422,4607078256495582411,13822208159806220226),(4609618985478745066,4608420224058065339,4606916321121803300,13822184888028780351),(4609244784850286614,4608844671355002899,4606755435913991634,13822141326160377794),(4608844671355002900,4609244784850286614,4606596235812561187,13822077646119805615),(4608420224058065340,4609618985478745065,4606439349107580696,13821994099223091310),(4607973118059043424,4609965796441453735,4606285394959200003,13821891015191667262),(4607505117881051984,4610283849033985670,4606134980954107803,13821768800851110889),(4606853722213951824,4610571888048062554,4605988700707664576,13821627938525589946),(4605845377380614556,4610828776725288332,4605847131521173945,13821390711868646552),(4604806761938463003,4611053501243415268,4605710832103538178,13821037873595451958),(4603741974828149072,4611245174717437183,4605580340366289404,13820651498323011699),(4602631617383237525,4611403040699719392,4605456171300698539,13820233110898008035),(4600422743266261629,4611526476165351934,4605338814945340021,13819784362504464421),(4598187225549724648,4611614993970944258,4605228734452133431,13819307024147276534),(4593692554056209284,4611668244777157630,4605126364258494461,13818802979662865039)]
def speedU1:List (Nat×Nat×Nat×Nat):=[(4368955796522032128,4611686018427387904,4605032108372808911,13818274218284533892),(13817064590910985084,4611668244777157630,4604946338779996165,13817722826791875266),(13821559262404500444,4611614993970944259,4604869393973454656,13817150981275203882),(13823794780121037433,4611526476165351935,4604801577619183062,13816078220322363604),(13826003654238013337,4611403040699719392,4604743157357349350,13814866397703144072),(13827114011682924874,4611245174717437184,4604694363746037300,13813627620430316412),(13828178798793238806,4611053501243415269,4604655389351339076,13812193497638354684),(13829217414235390366,4610828776725288331,4604626387987384848,13809637631972973199),(13830225759068727635,4610571888048062552,4604607474109308680,13806078889588648191),(13830877154735827794,4610283849033985669,4604598722361546408,13797469630256137254),(13831345154913819229,4609965796441453736,4604600167283248159,4577820009264893243),(13831792260912841147,4609618985478745066,4604611803171968096,4584172347111275399),(13832216708209778708,4609244784850286614,4604633584106169376,4586992547212206816),(13832616821705062420,4608844671355002901,4604665424126455464,4589353884562814692),(13832991022333520873,4608420224058065341,4604707197574812617,4590608978202658621),(13833337833296229543,4607973118059043423,4604758739590524641,4591840611389704173),(13833655885888761476,4607505117881051988,4604819846760802827,4593043923430441756),(13833943924902838362,4606853722213951824,4604890277923563299,4593942892659946751),(13834200813580064138,4605845377380614560,4604969755119183577,4594509169405909274),(13834425538098191076,4604806761938463004,4605057964687482227,4595054367076452341),(13834617211572212991,4603741974828149073,4605154558505592291,4595576334025447439),(13834775077554495199,4602631617383237541,4605259155361843207,4596073010287810896),(13834898513020127743,4600422743266261623,4605371342460229111,4596542435709244973),(13834987030825720066,4598187225549724650,4605490677049526082,4596982757682071332),(13835040281631933438,4593692554056209289,4605616688170628956,4597392238456627213)]
def speedU2:List (Nat×Nat×Nat×Nat):=[(13835058055282163712,4373459396149402624,4605748878515211743,4597769261999369411),(13835040281631933438,13817064590910985079,4605886726388376399,4598112340370620395),(13834987030825720067,13821559262404500450,4606029687767544246,4598297669571031425),(13834898513020127742,13823794780121037439,4606177198449464550,4598433302279574613),(13834775077554495201,13826003654238013327,4606328676276866990,4598550142803242035),(13834617211572212992,13827114011682924877,4606483523435970449,4598647730025866138),(13834425538098191077,13828178798793238808,4606641128815780881,4598725678815262584),(13834200813580064141,13829217414235390357,4606800870419867222,4598783681543171040),(13833943924902838360,13830225759068727635,4606962117821097144,4598821509299323377),(13833655885888761479,13830877154735827791,4607124234649644919,4598839012794847919),(13833337833296229547,13831345154913819226,4607234499952234906,4598836122951444417),(13832991022333520874,13831792260912841147,4607315467639124462,4598812851174004543),(13832616821705062424,13832216708209778705,4607395910243030294,4598769289305601986),(13832216708209778707,13832616821705062422,4607475510293745519,4598705609265029807),(13831792260912841146,13832991022333520875,4607553953646235764,4598622062368315501),(13831345154913819232,13833337833296229543,4607630930720426111,4598518978336891454),(13830877154735827790,13833655885888761480,4607706137722972211,4598396763996335081),(13830225759068727633,13833943924902838361,4607779277846193824,4598255901670814138),(13829217414235390354,13834200813580064142,4607850062439439140,4598018675013870742),(13828178798793238806,13834425538098191077,4607918212148257023,4597665836740676146),(13827114011682924882,13834617211572212991,4607983458016881410,4597279461468235892),(13826003654238013321,13834775077554495201,4608045542549676843,4596861074043232225),(13823794780121037434,13834898513020127743,4608104220727356102,4596412325649688612),(13821559262404500461,13834987030825720066,4608159260973959396,4595934987292500727),(13817064590910985069,13835040281631933438,4608210446070778882,4595430942808089230)]
def speedU3:List (Nat×Nat×Nat×Nat):=[(13599315311804189184,13835058055282163712,4608257574013621656,4594902181429758085),(4593692554056209235,13835040281631933438,4608300458810028029,4594350789937099465),(4598187225549724639,13834987030825720067,4608338931213298784,4593778944420428073),(4600422743266261612,13834898513020127743,4608372839390434581,4592706183467587802),(4602631617383237532,13834775077554495200,4608402049521351437,4591494360848368262),(4603741974828149068,13834617211572212992,4608426446327007462,4590255583575540603),(4604806761938462992,13834425538098191078,4608445933524356574,4588821460783578891),(4605845377380614541,13834200813580064143,4608460434206333688,4586265595118197432),(4606853722213951833,13833943924902838359,4608469891145371772,4582706852733872353),(4607505117881051985,13833655885888761478,4608474267019252908,4574097593401361500),(4607973118059043420,13833337833296229545,4608473544558402032,13801192046119669013),(4608420224058065335,13832991022333520877,4608467726614042064,13807544383966051162),(4608844671355002894,13832616821705062428,4608456836146941425,13810364584066982586),(4609244784850286612,13832216708209778710,4608440916136798380,13812725921417590500),(4609618985478745067,13831792260912841146,4608420029412619803,13813981015057434436),(4609965796441453735,13831345154913819232,4608394258404763792,13815212648244479978),(4610283849033985667,13830877154735827797,4608363704819624699,13816415960285217564),(4610571888048062549,13830225759068727647,4608328489238244463,13817314929514722551),(4610828776725288330,13829217414235390370,4608288750640434324,13817881206260685082),(4611053501243415269,13828178798793238807,4608244645856284998,13818426403931228152),(4611245174717437183,13827114011682924883,4608196348947229966,13818948370880223245),(4611403040699719391,13826003654238013353,4608144050519104509,13819445047142586703),(4611526476165351935,13823794780121037436,4608087956969911557,13819914472564020780),(4611614993970944258,13821559262404500463,4608028289675263071,13820354794536847139),(4611668244777157630,13817064590910985074,4607965284114711634,13820764275311403023)]
def sPlaceU:Sum:=fun R args k=>match args with
 |[.float .f64 l,.float .f64 t]=>bif Nat.beq l 4611686018427387904 then
   match lookP t placeU0 with
   |some (x,y)=>k (.complex .f64 x y)
   |none=>match lookP t placeU1 with
    |some (x,y)=>k (.complex .f64 x y)
    |none=>match lookP t placeU2 with
     |some (x,y)=>k (.complex .f64 x y)
     |none=>match lookP t placeU3 with
      |some (x,y)=>k (.complex .f64 x y)
      |none=>none
  else none
 |_=>none
def hsU (f:FuncId) (args:List Value) (H:AH):Option Value:=bif Nat.beq f 61 then
  match args with
  |[.agg ⟨[.slice (some ⟨b,0,none⟩) 2 2]⟩,.complex .f64 z1 z2]=>
   match look b H.objs with
   |some (.cells cs 0)=>bif eqC cs fTwo then
     match lookT z1 z2 speedU0 with
     |some p=>some (spV p)
     |none=>match lookT z1 z2 speedU1 with
      |some p=>some (spV p)
      |none=>match lookT z1 z2 speedU2 with
       |some p=>some (spV p)
       |none=>match lookT z1 z2 speedU3 with
        |some p=>some (spV p)
        |none=>none
    else none
   |_=>none
  |_=>none
 else none
noncomputable def cxu (l:List (Nat×Sum)):Cx:={ cxm Tryz.prog ((27,sPlaceU)::l) with hs:=hsU }
noncomputable def chkU:List (Nat×Nat×Nat)→Bool
 |[]=>true
 |(t,x,y)::r=>isC (evFn (cxm Tryz.prog hot) 300 27 [.float .f64 4611686018427387904,.float .f64 t] some) x y && chkU r
theorem chkU_look {t x y:Nat}:∀{l:List (Nat×Nat×Nat)},chkU l=true→lookP t l=some (x,y)→evFn (cxm Tryz.prog hot) 300 27 [.float .f64 4611686018427387904,.float .f64 t] some=some (.complex .f64 x y)
 |[],_,h=>by cases h
 |(a,u,v)::r,hc,h=>by
  unfold chkU at hc; simp only[Bool.and_eq_true]at hc; unfold lookP at h; cases ha:Nat.beq a t with
  |true=>
   rw[ha]at h
   cases h
   have:=Nat.eq_of_beq_eq_true ha
   subst this; exact isC_eq hc.1
  |false=>rw[ha]at h;exact chkU_look hc.2 h
theorem pu0:chkU placeU0=true:=by kernel_rfl
theorem pu1:chkU placeU1=true:=by kernel_rfl
theorem pu2:chkU placeU2=true:=by kernel_rfl
theorem pu3:chkU placeU3=true:=by kernel_rfl
theorem k162u:SumOk Tryz.prog 27 sPlaceU:=by
 intro R args k r hr; unfold sPlaceU at hr; split at hr
 ·rename_i l t; cases hl:Nat.beq l 4611686018427387904 with
  |false=>rw[hl]at hr;cases hr
  |true=>
   rw[hl]at hr
   have:=Nat.eq_of_beq_eq_true hl
   subst this; simp only[cond_true]at hr; have key:∃ x y,evFn (cxm Tryz.prog hot) 300 27 [.float .f64 4611686018427387904,.float .f64 t] some=some (.complex .f64 x y)∧k (.complex .f64 x y)=some r:=by
    split at hr
    ·exact⟨_,_,chkU_look pu0 ‹_›,hr⟩
    ·split at hr
     ·exact⟨_,_,chkU_look pu1 ‹_›,hr⟩
     ·split at hr
      ·exact⟨_,_,chkU_look pu2 ‹_›,hr⟩
      ·split at hr
       ·exact⟨_,_,chkU_look pu3 ‹_›,hr⟩
       ·cases hr
   obtain⟨x,y,h1,h2⟩:=key
   obtain⟨v,g1,g2,g3⟩:=evFn_sound (cxm_ok hot_ok) zm_ok h1 rfl
   cases g1
   exact⟨rfl,_,h2,g2,g3⟩
 ·cases hr
noncomputable def evU (z1 z2:Nat):Option Value:=match Tryz.f61.body with
 |some c=>calAt (cxm Tryz.prog hot) 300 1 61 Tryz.f61 c [.agg ⟨[.slice (some ⟨0,0,none⟩) 2 2]⟩,.complex .f64 z1 z2] ⟨1,[(0,.cells fTwo 0)]⟩ (fun v _=>bif flat v then some v else none)
 |none=>none
noncomputable def chkV:List (Nat×Nat×Nat×Nat)→Bool
 |[]=>true
 |(a,b,x,y)::r=>isT (evU a b) x y && chkV r
theorem chkV_look {z1 z2:Nat} {p:Nat×Nat}:∀{l:List (Nat×Nat×Nat×Nat)},chkV l=true→lookT z1 z2 l=some p→evU z1 z2=some (spV p)
 |[],_,h=>by cases h
 |(a,b,u,v)::r,hc,h=>by
  unfold chkV at hc; simp only[Bool.and_eq_true]at hc; unfold lookT at h; cases ha:(Nat.beq a z1 && Nat.beq b z2) with
  |true=>
   rw[ha]at h
   cases h
   simp only[Bool.and_eq_true,Nat.beq_eq]at ha
   rw[← ha.1,← ha.2]
   exact isT_eq hc.1
  |false=>rw[ha]at h;exact chkV_look hc.2 h
theorem su0:chkV speedU0=true:=by kernel_rfl
theorem su1:chkV speedU1=true:=by kernel_rfl
theorem su2:chkV speedU2=true:=by kernel_rfl
theorem su3:chkV speedU3=true:=by kernel_rfl
theorem speedU_calls {z1 z2:Nat} {v:Value} (h:evU z1 z2=some v):flat v=true∧∀(b:Nat) (ρ:Map) (H:AH) (w:World) (args':List Value),Inv ρ H w→look b H.objs=some (.cells fTwo 0)→
  VRels ρ [.agg ⟨[.slice (some ⟨b,0,none⟩) 2 2]⟩,.complex .f64 z1 z2] args'→Calls Tryz.prog 61 ⟨args'⟩ w fun e w'=>e=.returned v∧RowKit.Below w.heap.size w w':=by
 unfold evU at h; split at h
 ·rename_i c hb
  obtain⟨v',H',h1,h2⟩:=cal_sound (cxm_ok hot_ok) (fun lo sz c e H k r=>(evCode_sound (cxm_ok hot_ok) zm_ok 300).1 lo sz c e H k r) _ _ _ _ _ _ _ _ h Tryz.func61 hb
  cases hfl:flat v' with
  |false=>rw[hfl]at h1;cases h1
  |true=>
   rw[hfl]at h1
   cases h1
   refine⟨hfl,fun b ρ H w args' hi hl ha=>?_⟩
   obtain⟨s,e1,arr,ty,cs',q1,q2,q3,q4,q5⟩:=hi.rel.obj b _ (look_mem hl)
   have hflat:inns 0 fTwo=true:=by decide
   have:=q2.flat_eq hflat
   subst this; have hinv:Inv (fun k=>bif Nat.beq k 0 then some s else none) ⟨1,[(0,.cells fTwo 0)]⟩ w:=
    ⟨fun k hk=>by
      simp only at hk
      have:Nat.beq k 0=false:=beq_ne (by omega)
      simp[this],
     fun k o hm=>by simp only[List.mem_singleton,Prod.mk.injEq]at hm;simp[hm.1],
     fun k o o' hm hm'=>by simp only[List.mem_singleton,Prod.mk.injEq]at hm hm';rw[hm.2,hm'.2],
     ⟨fun k o hm=>by
       simp only[List.mem_singleton,Prod.mk.injEq]at hm
       obtain⟨rfl,rfl⟩:=hm
       exact⟨s,rfl,arr,ty,fTwo,q1,VRels.ofFlat _ hflat,q3,q4,q5⟩,
      fun k o k' o' s s' hm hm' _ _ _=>by simp only[List.mem_singleton,Prod.mk.injEq]at hm hm';rw[hm.1,hm'.1]⟩⟩
   have hargs:VRels (fun k=>bif Nat.beq k 0 then some s else none) [.agg ⟨[.slice (some ⟨0,0,none⟩) 2 2]⟩,.complex .f64 z1 z2] args':=by
    obtain _|⟨r1,r2⟩:=ha; obtain _|⟨r2,r3⟩:=r2; cases r3; cases r2; cases r1 with|agg r1=>
    obtain _|⟨r1,r4⟩:=r1; cases r4; cases r1 with
    |@slice _ _ _ _ s2 hs=>
     rw[e1]at hs
     cases hs
     exact .cons (.agg (.cons (.slice (s:=s) rfl) .nil)) (.cons (.complex _ _) .nil)
   refine(h2 _ w args' hinv (Nat.le_refl _) hargs).mono ?_
   rintro e w' ⟨ρ',v',rfl,g1,g2⟩
   have:=g1.flat_eq hfl
   subst this
   exact⟨rfl,g2.os,g2.tape,g2.output,g2.size,fun b hb=>g2.keep b hb fun k o s hk hm=>by simp only[List.mem_singleton,Prod.mk.injEq]at hm;omega⟩
 ·cases h
theorem hsU_ok:∀ f args H v,hsU f args H=some v→Has Tryz.prog f∧flat v=true∧
  ∀(ρ:Map) (w:World) (args':List Value),Inv ρ H w→VRels ρ args args'→Calls Tryz.prog f ⟨args'⟩ w fun e w'=>e=.returned v∧RowKit.Below w.heap.size w w':=by
 intro f args H v h; unfold hsU at h; cases hf:Nat.beq f 61 with
 |false=>rw[hf]at h;cases h
 |true=>
  rw[hf]at h
  have:=Nat.eq_of_beq_eq_true hf
  subst this; simp only[cond_true]at h; split at h
  ·rename_i b z1 z2; split at h
   ·rename_i cs hl; cases he:eqC cs fTwo with
    |false=>rw[he]at h;cases h
    |true=>
     rw[he]at h
     have:=eqC_eq he
     subst this; simp only[cond_true]at h; have key:evU z1 z2=some v:=by
      split at h
      ·cases h;exact chkV_look su0 ‹_›
      ·split at h
       ·cases h;exact chkV_look su1 ‹_›
       ·split at h
        ·cases h;exact chkV_look su2 ‹_›
        ·split at h
         ·cases h;exact chkV_look su3 ‹_›
         ·cases h
     obtain⟨g1,g2⟩:=speedU_calls key
     exact⟨h52,g1,fun ρ w args' hi ha=>g2 b ρ H w args' hi hl ha⟩
   ·cases h
  ·cases h
theorem cxu_ok {l:List (Nat×Sum)} (h:AllOk Tryz.prog l):(cxu l).Ok where
 fair:=fiReal_fair
 sums:=fun f g hg=>tab_ok (.cons k162u h162 h) f g hg
 exts:=fun f g hg=>exts_ok extL_ok f g hg
 meths:=meth_ok
 nan1:=(cxm_ok h).nan1
 hs:=hsU_ok
theorem awake_eval:evFn (cxu hot) 1000 5 [] some=some (.bool true):=by kernel_rfl
theorem awake_call (H:AH):FlatCall Tryz.prog 5 [] H (.bool true):=by
 obtain⟨v,h1,_,h2⟩:=evFn_sound (cxu_ok hot_ok) zm_ok awake_eval rfl
 cases h1
 intro ρ w args' hi ha; cases ha; exact h2 w
open Go.Proofs Ieee
theorem lift_list {P:Program} {f:FuncId} {argsc args:List Value} {es os:List Value} {sz t b:Nat} {H H1:AH} {v:Nat→Value} (hes:inns 0 es=true) (hos:inns 0 os=true) (hm:(b,.cells es sz)∈H.objs)
  (ha:renL (only b) argsc=some args) (hv:renV (placeC (only b) 1 H.next [3]) (v 3)=some (v H.next)) (hH1:(3,.cells os t)∈H1.objs)
  (hc:∀ ρ w args',Inv ρ ⟨1,[(0,.cells es sz)]⟩ w→VRels ρ argsc args'→Calls P f ⟨args'⟩ w fun e w'=>∃ ρ' v',e=.returned v'∧VRel ρ' (v 3) v'∧Next 1 ρ ⟨1,[(0,.cells es sz)]⟩ w ρ' H1 w'):MemCall P f args H (v H.next) (H.push (.cells os t)):=
 calls_lift (q:=only b) (bs:=[3]) (A:=[(H.next,.cells os t)]) (Hc:=⟨1,[(0,.cells es sz)]⟩) (H:=H) (within_only hes hm) ha hv (fun k o2 hk=>by
  simp only[List.mem_singleton,Prod.mk.injEq]at hk
  obtain⟨rfl,rfl⟩:=hk
  exact⟨3,_,hH1,rfl,by simp[renO,rens_flat hos]⟩) (fun j hj=>by
  simp only[List.mem_singleton]at hj
  subst hj; show 1≤3; omega) hc
section
variable {cs:List Value} {sz c:Nat} {hs:List Th} {x y r:Int}
theorem of_leaves (hx:ThAt cs 0 hs) (hn:hs.length<900000) (h0:0<hs.length) (hcs:inns 0 cs=true) (hsm:∀ h∈hs,h.small=true) {e:Int} {b:Bool} (hb:(e == 0)=b) (hck:FlatCall Tryz.prog 34 [flowV 0 hs.length hs.length] ⟨1,[(0,.cells (cellsOf (els hs)) 4)]⟩ (.int .i64 e)):
  MemCall Tryz.prog 7 [.slice (some ⟨0,0,none⟩) hs.length c] ⟨2,[(1,.cells [.int .i16 x,.int .i16 y] 0),(0,.cells cs sz)]⟩ (ofV (sl3 2 hs.length) b) (AH.push ⟨2,[(1,.cells [.int .i16 x,.int .i16 y] 0),(0,.cells cs sz)]⟩ (.cells (cellsOf (els hs)) 4)):=by
 obtain⟨H1,hH1,hc⟩:=of_call_good (sz:=sz) (c:=c) hx hn h0 hsm hck
 rw[hb]at hc
 exact lift_list (b:=0) (v:=fun k=>ofV (sl3 k hs.length) b) hcs (row_cells _).2.1 (by simp) rfl rfl hH1 hc
end
theorem of_slice (c:Nat):FlatCall Tryz.prog 7 [.slice (some ⟨0,0,none⟩) 0 c] ⟨1,[]⟩ (ofV nilS true):=by
 have h:evTop (cxm Tryz.prog hot) 60 (rollL (cxm Tryz.prog hot) 30) 1 62 (codeOf 7) (enumE 0 [.slice (some ⟨0,0,none⟩) 0 c]) ⟨1,[]⟩ (takeC [2,3] [1] fun ex e O=>some (ex,e,O))=some (.ret,[(2,.pointer (some ⟨1,0,none⟩)),(3,.bool true)],[(1,.cells [.slice none 0 0] 0)]):=by kernel_rfl
 exact fun_flat (C:=cxm Tryz.prog hot) (args:=[.slice (some ⟨0,0,none⟩) 0 c]) (H:=⟨1,[]⟩) (cxm_ok hot_ok) zm_ok Tryz.func7 of_body (fun a _=>rollL_ok (cxm_ok hot_ok) zm_ok 30 a) (Nat.le_of_ble_eq_true rfl) h (.inr rfl) (vs:=[.agg ⟨[nilS]⟩,.bool true]) rfl rfl
theorem of_nil (H:AH):FlatCall Tryz.prog 7 [nilS] H (ofV nilS true):=flat_of_fn rfl (by kernel_rfl)
open Go.Proofs Go.ChangeShapes Go.WideShapes Go.ChangeAt Go.RowKit Go.Deep
theorem within_empty {H:AH}:Within (only 0) ⟨1,[]⟩ H:=⟨fun j o h=>by simp at h,fun j o h=>by simp at h,fun j o o' h h'=>by simp at h,fun j j' k h1 h2=>by rw[(only_some h1).1,(only_some h2).1],fun j k h=>by rw[(only_some h).1];exact Nat.zero_lt_one⟩
theorem of_slice2 (c:Nat) (H:AH):FlatCall Tryz.prog 7 [.slice (some ⟨0,0,none⟩) 0 c] H (ofV nilS true):=calls_pull (q:=only 0) within_empty rfl (of_slice c)
theorem inns_all:∀{l:List Value},(∀ v∈l,inn 0 v=true)→inns 0 l=true
 |[],_=>rfl
 |v::r,h=>by
  simp only[inns,Bool.and_eq_true]
  exact⟨h v (by simp),inns_all fun u hu=>h u (by simp[hu])⟩
theorem Th.cs_len (h:Th):h.cs.length=6:=rfl
instance:Inhabited Th:=⟨⟨0,0,0,0,0,0⟩⟩
section
variable {H:Type} {enc:TypeId×Value→H} {w:World} {base:Nat} {spare:Nat→Bool} {held:Bool}
theorem wf_int {k:IntKind} {n:Int} (h:(Lit.int k n).wf=true):k.min≤n∧n≤k.max:=by
 simpa[Lit.wf] using h
theorem gauss_open {fuel:Nat} {cs:List Value} {x:DataW H×List MemPlace} (h:DataW.trod enc Tryz.prog w base spare held fuel 25 cs=some x):
  ∃ m n:Int,cs=[.int .i16 m,.int .i16 n]∧x.2=[]:=by
 obtain⟨y0,y1,k,rfl,hl,h0,h1⟩:=trod_struct2 Tryz.underlying25 h
 obtain⟨m,e0,rfl,_⟩:=DataW.trod_int Tryz.underlying23 h0
 obtain⟨n,e1,rfl,_⟩:=DataW.trod_int Tryz.underlying23 h1
 have hl':cs.length=2:=hl
 match cs,hl' with
 |[a,b],_=>
  have e0':[a]=[Value.int .i16 m]:=e0; have e1':[b]=[Value.int .i16 n]:=e1; simp only[List.cons.injEq,and_true]at e0' e1'; subst e0' e1'
  exact⟨m,n,rfl,rfl⟩
theorem thing_open {fuel:Nat} {cs:List Value} {x:DataW H×List MemPlace} (h:DataW.trod enc Tryz.prog w base spare held fuel 76 cs=some x):
  ∃(t:Th) (a b c d:DataW H),cs=t.cs∧t.p.natAbs≤1000∧x=(.agg [a,b,c,d],[]):=by
 obtain⟨y0,y1,y2,y3,k,rfl,hl,h0,h1,h2,h3⟩:=Go.Joins.trod_struct4 Tryz.underlying76 h
 obtain⟨kind,e0,rfl,_⟩:=DataW.trod_int Tryz.underlying5 h0
 obtain⟨m1,n1,e1,g1⟩:=gauss_open h1
 obtain⟨m2,n2,e2,g2⟩:=gauss_open h2
 obtain⟨p,e3,rfl,hp⟩:=DataW.trod_int Tryz.underlying74 h3
 have hl':cs.length=6:=hl
 match cs,hl' with
 |[a,b,c,d,e,f],_=>
  have e0':[a]=[Value.int .u8 kind]:=e0; have e1':[b,c]=[Value.int .i16 m1,.int .i16 n1]:=e1; have e2':[d,e]=[Value.int .i16 m2,.int .i16 n2]:=e2; have e3':[f]=[Value.int .i8 p]:=e3; simp only[List.cons.injEq,and_true]at e0' e1' e2' e3'
  obtain⟨rfl,rfl⟩:=e1'
  obtain⟨rfl,rfl⟩:=e2'
  subst e0' e3'; have hp':=wf_int hp; have a1:IntKind.i8.min=-128:=rfl; have a2:IntKind.i8.max=127:=rfl
  refine⟨⟨kind,m1,n1,m2,n2,p⟩,.lit (.int .u8 kind),y1.1,y2.1,.lit (.int .i8 p),rfl,by show p.natAbs≤1000;omega,?_⟩
  rw[g1,g2]
  rfl
end
theorem things_at {W:World} {a:Addr} {n:Nat} {hs:Nat→Th} (ha:a.spot=none) (hn:0<n) (hr:∀ i,i<n→W.cells? 0 (a.add (i*6)) 6=some (hs i).cs) (hfz:∀ j,j<n*6→W.frozen? ⟨a.block,a.off+j,none⟩=false):
  ∃ cs,ThAt cs 0 ((List.range n).map hs)∧inns 0 cs=true∧Inv (oneMap ⟨a.block,a.off,0⟩) ⟨1,[(0,.cells cs 6)]⟩ W:=by
 have cellAt:∀ i j,i<n→j<6→W.cell? ⟨a.block,a.off+(i*6+j),none⟩=(hs i).cs[j]?:=fun i j hi hj=>by
  have:=(World.cells?_some (hr i hi)).2.2 j hj
  rw[add_add]at this
  have e:a.add (i*6+j)=⟨a.block,a.off+(i*6+j),none⟩:=by
   unfold Addr.add; split
   ·rename_i h0
    rw[h0,Nat.add_zero]
    cases a
    simp only at ha; subst ha; rfl
   ·rfl
  rw[e]at this
  exact this
 have h00:=cellAt 0 0 hn (by omega); have hex:∃ arr ty fr,W.heap[a.block]?=some (.cells arr ty fr):=by
  unfold World.cell? at h00; simp only at h00; split at h00
  ·rename_i c e fr hh;exact⟨_,_,_,hh⟩
  ·rename_i hno
   have:(hs 0).cs[0]?=some (.int .u8 (hs 0).kind):=rfl
   rw[this]at h00
   cases h00
 obtain⟨arr,ty,fr,hb⟩:=hex
 have arrAt:∀ i j,i<n→j<6→arr[a.off+(i*6+j)]?=(hs i).cs[j]?:=fun i j hi hj=>by
  have:=cellAt i j hi hj
  unfold World.cell? at this; simpa[hb] using this
 have some6:∀(t:Th) j,j<6→∃ v,t.cs[j]?=some v∧inn 0 v=true:=fun t j hj=>by
  match j,hj with
  |0,_=>exact⟨_,rfl,rfl⟩
  |1,_=>exact⟨_,rfl,rfl⟩
  |2,_=>exact⟨_,rfl,rfl⟩
  |3,_=>exact⟨_,rfl,rfl⟩
  |4,_=>exact⟨_,rfl,rfl⟩
  |5,_=>exact⟨_,rfl,rfl⟩
 have hsize:a.off+n*6≤arr.size:=by
  have h1:=arrAt (n-1) 5 (by omega) (by omega)
  obtain⟨v,hv,_⟩:=some6 (hs (n-1)) 5 (by omega)
  rw[hv]at h1
  have:=(Array.getElem?_eq_some_iff.1 h1).1
  omega
 let cs:List Value:=(arr.toList.drop a.off).take (n*6)
 have hlen:cs.length=n*6:=by
  show ((arr.toList.drop a.off).take (n*6)).length=_
  rw[List.length_take,List.length_drop,Array.length_toList]
  omega
 have hget:∀ k,k<n*6→cs[k]?=arr[a.off+k]?:=fun k hk=>by
  show ((arr.toList.drop a.off).take (n*6))[k]?=_
  rw[List.getElem?_take_of_lt hk,List.getElem?_drop,Array.getElem?_toList]
 have hthing:∀ i,i<n→∃ rest,cs.drop (0+i*6)=(hs i).cs++rest:=fun i hi=>by
  refine⟨cs.drop (i*6+6),?_⟩
  rw[Nat.zero_add]
  apply List.ext_getElem?
  intro k
  rw[List.getElem?_drop]
  by_cases hk:k<6
  ·rw[List.getElem?_append_left (by rw[Th.cs_len];exact hk),hget _ (by omega),← arrAt i k hi hk]
  ·rw[List.getElem?_append_right (by rw[Th.cs_len];omega),List.getElem?_drop,Th.cs_len]
   congr 1
   omega
 have hflat:inns 0 cs=true:=inns_all fun v hv=>by
  obtain⟨k,hk,rfl⟩:=List.mem_iff_getElem.1 hv
  rw[hlen]at hk
  have e1:cs[k]?=some cs[k]:=List.getElem?_eq_getElem (by rw[hlen];exact hk); have hd:=Nat.div_add_mod k 6; have hm:=Nat.mod_lt k (show 0<6 by omega); have hq:k/6<n:=by omega
  rw[hget k hk,show a.off+k=a.off+(k/6*6+k % 6) by omega,arrAt _ _ hq hm]at e1
  obtain⟨v,hv1,hv2⟩:=some6 (hs (k/6)) (k % 6) hm
  rw[hv1]at e1
  rw[← Option.some.inj e1]
  exact hv2
 refine⟨cs,fun i t hi=>?_,hflat,⟨fun k hk=>?_,fun k o hm=>?_,fun k o o' h1 h2=>?_,⟨fun k o hm=>?_,fun k o k' o' s1 s1' h1 h2 _ _ _=>?_⟩⟩⟩
 ·rw[List.getElem?_map]at hi
  cases hri:(List.range n)[i]? with
  |none=>rw[hri]at hi;cases hi
  |some q=>
   rw[hri]at hi
   obtain⟨hlt,hq⟩:=List.getElem?_eq_some_iff.1 hri
   rw[List.getElem_range]at hq
   subst hq
   rw[List.length_range]at hlt
   cases hi
   exact hthing i hlt
 ·have hk1:1≤k:=hk; unfold oneMap; cases hb:Nat.beq k 0 with
  |true=>have:=Nat.eq_of_beq_eq_true hb;omega
  |false=>rfl
 ·simp only[List.mem_singleton,Prod.mk.injEq]at hm;show k<1;omega
 ·simp only[List.mem_singleton,Prod.mk.injEq]at h1 h2;rw[h1.2,h2.2]
 ·simp only[List.mem_singleton,Prod.mk.injEq]at hm
  obtain⟨rfl,rfl⟩:=hm
  refine⟨_,rfl,arr,ty,cs,⟨⟨fr,hb⟩,fun j hj=>hfz j (by simp only[hlen]at hj;omega)⟩,VRels.ofFlat _ hflat,fun i v hv=>?_,?_,fun h=>by cases h⟩
  ·have hi:=(List.getElem?_eq_some_iff.1 hv).1
   rw[hlen]at hi
   rw[hget i hi]at hv
   exact hv
  ·simp only[hlen];omega
 ·simp only[List.mem_singleton,Prod.mk.injEq]at h1 h2;rw[h1.1,h2.1]
end Go.Vm
