/- The angle of an angle's point is that angle, but for 1: the plain law. No program in sight. -/
import Derived.Test.YtlhfmeekbijhgaaCirc
import Derived.Test.YtlhfmeekbijhgaaAngP
namespace Go.Proofs.Ytlhfmeekbijhgaa
open Fl

/-! ### how much a polynomial moves -/
def lipP : List Rat → Rat → Rat
  | [], _ => 0
  | _ :: l, b => sizeP l b + b * lipP l b
theorem evalP_lip (l : List Rat) (z y b D : Rat) (hz : Bd b z) (hy : Bd b y) (h : Near D z y) : Near (lipP l b * D) (evalP l z) (evalP l y) := by
  induction l with
  | nil => unfold Near evalP lipP; constructor <;> grind
  | cons a l ih =>
    have m1 := Bd.mul (M := D) (x := z - y) ⟨h.1, h.2⟩ (evalP_bd l z b hz)
    have m2 := Bd.mul (M := b) hy (N := lipP l b * D) (y := evalP l z - evalP l y) ⟨ih.1, ih.2⟩
    simp only [evalP, lipP]
    unfold Near
    unfold Bd at m1 m2
    constructor <;> grind

/-- The exact polynomials, at an exact angle. -/
def cosQ (t : Rat) : Rat := 1 + (t * t) * horQ cosC (t * t) 7
def sinQ (t : Rat) : Rat := t * (1 + (t * t) * horQ sinC (t * t) 7)
def hh : Rat := rv rad
def ee : Rat := 162000000000 * hh

theorem ee_bd : 0 < ee ∧ ee ≤ 7854/10000 ∧ 785/1000 ≤ ee := by unfold ee hh; exact ⟨by decide +kernel, by decide +kernel, by decide +kernel⟩
theorem ee_sq : ee * ee ≤ 617/1000 := by unfold ee hh; decide +kernel

/-- The cosine falls. -/
def cosRest : List Rat := [0, 0, rv (cosC 1), rv (cosC 2), rv (cosC 3), rv (cosC 4), rv (cosC 5), rv (cosC 6), rv (cosC 7)]
theorem cosRest_lip : lipP cosRest (617/1000) ≤ 6/100 := by decide +kernel
theorem cosQ_split (t : Rat) : cosQ t = 1 - (t * t) * (1/2) + evalP cosRest (t * t) := by
  unfold cosQ cosRest
  rw [horQ_coefs]
  simp only [coefs, evalP, rv_c0]
  grind
theorem cos_falls {x y : Rat} (h0 : 0 ≤ x) (h1 : x ≤ y) (h2 : y ≤ ee) : cosQ y + (y * y - x * x) * (44/100) ≤ cosQ x := by
  have hyy : y * y ≤ 617/1000 := by
    have a := Rat.mul_nonneg (show 0 ≤ ee - y by grind) (show 0 ≤ ee + y by have := ee_bd.1; grind)
    have := ee_sq
    grind
  have hxy : x * x ≤ y * y := by
    have a := Rat.mul_nonneg (show 0 ≤ y - x by grind) (show 0 ≤ y + x by grind)
    grind
  have hxx := sq_nonneg x
  have n := evalP_lip cosRest (x * x) (y * y) (617/1000) (y * y - x * x) (by unfold Bd; constructor <;> grind) (by unfold Bd; constructor <;> grind) (by unfold Near; constructor <;> grind)
  have l := Rat.mul_le_mul_of_nonneg_right cosRest_lip (show 0 ≤ y * y - x * x by grind)
  rw [cosQ_split, cosQ_split]
  unfold Near at n
  grind

/-- The sine grows. -/
def dbl : List Rat → List Rat
  | [] => []
  | a :: l => a :: 0 :: dbl l
theorem evalP_dbl (l : List Rat) (t : Rat) : evalP (dbl l) t = evalP l (t * t) := by
  induction l with
  | nil => rfl
  | cons a l ih => simp only [dbl, evalP, ih]; grind
def sinRest : List Rat := 0 :: 0 :: 0 :: dbl (coefs sinC)
theorem sinRest_lip : lipP sinRest (7854/10000) ≤ 33/100 := by decide +kernel
theorem sinQ_split (t : Rat) : sinQ t = t + evalP sinRest t := by
  unfold sinQ sinRest
  rw [horQ_coefs]
  simp only [evalP, evalP_dbl]
  generalize evalP (coefs sinC) (t * t) = E
  grind
theorem sin_grows {x y : Rat} (h0 : 0 ≤ x) (h1 : x ≤ y) (h2 : y ≤ ee) : sinQ x + (y - x) * (67/100) ≤ sinQ y := by
  have he := ee_bd
  have n := evalP_lip sinRest x y (7854/10000) (y - x) (by unfold Bd; constructor <;> grind) (by unfold Bd; constructor <;> grind) (by unfold Near; constructor <;> grind)
  have l := Rat.mul_le_mul_of_nonneg_right sinRest_lip (show 0 ≤ y - x by grind)
  rw [sinQ_split, sinQ_split]
  unfold Near at n
  generalize lipP sinRest (7854/10000) = A at *
  generalize evalP sinRest x = p at *
  generalize evalP sinRest y = q at *
  clear he h0 h2
  grind
theorem sinQ_zero : sinQ 0 = 0 := by unfold sinQ; simp
def zE : Rat := (220099532958990211317217219338718414306640625 / 356811923176489970264571492362373784095686656)
def eE : Rat := (14835751850141947265625 / 18889465931478580854784)
theorem ez : ee * ee = zE := by unfold ee hh; decide +kernel
theorem eeE : ee = eE := by unfold ee hh; decide +kernel
def cE0 : Rat := (7573384136472607 / 158456325028528675187087900672)
theorem cq0 : rv (cosC 7) = cE0 := by decide +kernel
def cE1 : Rat := (-646878803774030151676024305170004625814227156213336966826880209 / 56539106072908298546665520023773392506479484700019806659891398441363832832)
theorem cq1 : rv (cosC 6) + zE * cE0 = cE1 := by decide +kernel
def cE2 : Rat := (41974031017074217793219319457268861519114321840146785916745334896690900362865555534669485899761695603825175871 / 20173827172553973356686868531273530268200826506478308693989526222973809547006571833044104322501076808092993531037089792)
theorem cq2 : rv (cosC 5) + zE * cE1 = cE2 := by decide +kernel
def cE3 : Rat := (-1974409592935464188542752021251272526019261678515993843812450135304551395488360279887390598195546053267858636157894123406308797193781736950825296314280880561 / 7198262071269114212496861612297570974191515389283066612961208916178940129074380592510465097766225371439873457013633432197133225688790879502413624289384262168215552)
theorem cq3 : rv (cosC 4) + zE * cE2 = cE3 := by decide +kernel
def cE4 : Rat := (63266468419780629287536917601610912468943518416993209824322936293420460573108053947362327608970942594646869021802251496332840616438757592595962520348484146493493309940131549781682708977444706655695101535 / 2568425733177916751582514591250062824975751856847252861083144972201529372215371495172688738416791235950675277761805770367685269653410060480042878305982363696267199058168185838960773319279454451792623658074112)
theorem cq4 : rv (cosC 3) + zE * cE3 = cE4 := by decide +kernel
def cE5 : Rat := (-1258915254003284348804924640598332695346211288070649222100895849096493492724499952352465802759112847482146139777400235101831496426529983616766571180153072987116073475359667587727811496134036608413714947099759167457293080405301472412270627530001541777 / 916444925391198758541401085877594831703095653509460880942126390473954048171292933099049096506388108013739504295007991042380699544226348054414240833330066547856411977855334787272537640367327320839841280263415847919229777715415602675691481187407177449472)
theorem cq5 : rv (cosC 2) + zE * cE4 = cE5 := by decide +kernel
def cE6 : Rat := (13347849853649281740802959905250415420263858565243017450878393203926711425355381812642962028726182042378337127307112182353319780187040582738954029807377942833699038394037064622011125021396213906130671505515357987787955419468241702977361517324041124992950060372348600452186762925892079998437329791 / 326998476314168493941780105303955630664491214509745363599777340200912796363811072538207513066313433266477866490952498420772444240018406385375505907430986779905229729456305877240633380281444431820005925969026076507067319984967003404515550047182527554765966689382523869862684015858539562586584645632)
theorem cq6 : rv (cosC 1) + zE * cE5 = cE6 := by decide +kernel
def cE7 : Rat := (-55400622085925249160245607772322574228650288147524904617974908082881416513151526916079551773032891814023724545696328641501794593342176100528476686831188255461330700678997830740117033328765582418786818140788316122055432644584599836407633005235565199086995738960694322215302057235830676734349563691158653695099909819113762055316660040292183921 / 116676955209440363830628192366038755052825572478181455707922740117873569099601666110585906864467567047721566213366525738800924317083427716541926606922551394817475267355881923776835981744796665953849893211635261387039409214162509343317123665154075666131782230319737937682389836508780769344545451562061171030926792589509648405579906689471086592)
theorem cq7 : rv (cosC 0) + zE * cE6 = cE7 := by decide +kernel
theorem cqq : horQ cosC zE 7 = cE7 := by
  simp only [horQ, Nat.reduceSub, Nat.sub_zero, cq0, cq1, cq2, cq3, cq4, cq5, cq6, cq7]
def sE0 : Rat := (3563945475987109 / 1267650600228229401496703205376)
theorem sq0 : rv (sinC 7) = sE0 := by decide +kernel
def sE1 : Rat := (-345106618377450226483237667917442580282992202022199387531617451 / 452312848583266388373324160190187140051835877600158453279131187530910662656)
theorem sq1 : rv (sinC 6) + zE * sE0 = sE1 := by decide +kernel
def sE2 : Rat := (25841832188114649117092478262885030974382015749894947819876949360208977530530277694326457706004105415235872005 / 161390617380431786853494948250188242145606612051826469551916209783790476376052574664352834580008614464743948248296718336)
theorem sq2 : rv (sinC 5) + zE * sE1 = sE2 := by decide +kernel
def sE3 : Rat := (-1436965357574575859159949354034486904794315435030693806878435112843481370355533319465630830571493350654759318228214913419235567712655079572196571779923024971 / 57586096570152913699974892898380567793532123114264532903689671329431521032595044740083720782129802971518987656109067457577065805510327036019308994315074097345724416)
theorem sq3 : rv (sinC 4) + zE * sE2 = sE3 := by decide +kernel
def sE4 : Rat := (56306866861746680184585586012847620615862534616946685483469165978053542642144548722120082885395356792599428246594663683381425364414857437047347992715055696274505005608600050012496040285512052162235123557 / 20547405865423334012660116730000502599806014854778022888665159777612234977722971961381509907334329887605402222094446162941482157227280483840343026447858909570137592465345486711686186554235635614340989264592896)
theorem sq4 : rv (sinC 3) + zE * sE3 = sE4 := by decide +kernel
def sE5 : Rat := (-1442281369649280048944036496128765795539950493608828895130885478690629397639078119649890221437372052510767272595791920947824800556275435855105418102122181707318909711760375848860957185279926426558948164655973534419232261328536466904958769651264782315 / 7331559403129590068331208687020758653624765228075687047537011123791632385370343464792392772051104864109916034360063928339045596353810784435313926666640532382851295822842678298180301122938618566718730242107326783353838221723324821405531849499257419595776)
theorem sq5 : rv (sinC 2) + zE * sE4 = sE5 := by decide +kernel
def sE6 : Rat := (21482452965089306701882607753110936475081723397815307627758074678006739448894075063921462981421986124013957862129645437024053351309178613863360735018922453408001851966688921122856754384736577576713267208756703461450962435139235280432228814236605210965558875603145397793659327375877721108928773573 / 2615987810513347951534240842431645045315929716077962908798218721607302370910488580305660104530507466131822931927619987366179553920147251083004047259447894239241837835650447017925067042251555454560047407752208612056538559879736027236124400377460220438127733515060190958901472126868316500692677165056)
theorem sq6 : rv (sinC 1) + zE * sE5 = sE6 := by decide +kernel
def sE7 : Rat := (-150840995748157512286449449362023449232971357071432330534015577059356665014325362706896638721582324608074815496627457020847773881819294922706587059977710645938130278644481713169131386655742121566282773655367727614532590932016118264047140332163329470560987607155313146858187286825206662754812238366811785201259206823306080737948393201730801547 / 933415641675522910645025538928310040422604579825451645663381920942988552796813328884687254915740536381772529706932205910407394536667421732335412855380411158539802138847055390214687853958373327630799145693082091096315273713300074746536989321232605329054257842557903501459118692070246154756363612496489368247414340716077187244639253515768692736)
theorem sq7 : rv (sinC 0) + zE * sE6 = sE7 := by decide +kernel
theorem sqq : horQ sinC zE 7 = sE7 := by
  simp only [horQ, Nat.reduceSub, Nat.sub_zero, sq0, sq1, sq2, sq3, sq4, sq5, sq6, sq7]
theorem corner_c : 7/10 ≤ cosQ ee := by unfold cosQ; rw [ez, cqq]; decide +kernel
theorem corner_s : 7/10 ≤ sinQ ee := by unfold sinQ; rw [ez, sqq, eeE]; decide +kernel
theorem corner_d : -(uu * 10) ≤ cosQ ee - sinQ ee := by unfold cosQ sinQ; rw [ez, cqq, sqq, eeE]; decide +kernel
theorem corner_d' : cosQ ee - sinQ ee ≤ uu * 10 := by unfold cosQ sinQ; rw [ez, cqq, sqq, eeE]; decide +kernel
theorem corner : 7/10 ≤ cosQ ee ∧ 7/10 ≤ sinQ ee ∧ -(uu * 20) ≤ cosQ ee * cosQ ee - sinQ ee * sinQ ee := by
  refine ⟨corner_c, corner_s, ?_⟩
  have a := corner_c
  have b := corner_s
  have d := corner_d
  have d' := corner_d'
  have u0 : 0 ≤ uu := by decide +kernel
  have u1 : uu * 10 ≤ 1/1000 := by decide +kernel
  have bc : cosQ ee ≤ 8/10 := by unfold cosQ; rw [ez, cqq]; decide +kernel
  have := Rat.mul_nonneg (show 0 ≤ cosQ ee - sinQ ee + uu * 10 by grind) (show 0 ≤ cosQ ee + sinQ ee by grind)
  have := Rat.mul_nonneg (show 0 ≤ 2 - (cosQ ee + sinQ ee) by grind) (show 0 ≤ uu * 10 by grind)
  grind
theorem cos_low {x : Rat} (h0 : 0 ≤ x) (h1 : x ≤ ee) : cosQ ee + (ee - x) * (34/100) ≤ cosQ x := by
  have c := cos_falls h0 h1 Rat.le_refl
  have he := ee_bd
  have a := Rat.mul_nonneg (show 0 ≤ ee - x by grind) (show 0 ≤ ee + x - 785/1000 by grind)
  grind
theorem sin_low {x : Rat} (h0 : 0 ≤ x) (h1 : x ≤ ee) : 0 ≤ sinQ x := by
  have := sin_grows Rat.le_refl h0 h1
  rw [sinQ_zero] at this
  grind

/-- In one octant. -/
theorem cross {x y : Rat} (h0 : 0 ≤ x) (h1 : x ≤ y) (h2 : y ≤ ee) : (y - x) * (4/10) ≤ sinQ y * cosQ x - cosQ y * sinQ x := by
  have g := sin_grows h0 h1 h2
  have f := cos_falls h0 h1 h2
  have s0 := sin_low h0 (show x ≤ ee by grind)
  have c0 := cos_low h0 (show x ≤ ee by grind)
  have k := corner.1
  have hyx : 0 ≤ (y * y - x * x) := by
    have a := Rat.mul_nonneg (show 0 ≤ y - x by grind) (show 0 ≤ y + x by grind)
    grind
  have c1 : 7/10 ≤ cosQ x := by
    have a := Rat.mul_nonneg (show 0 ≤ ee - x by grind) (show (0 : Rat) ≤ 34/100 by decide +kernel)
    grind
  have a := Rat.mul_nonneg (show 0 ≤ sinQ y - sinQ x - (y - x) * (67/100) by grind) (show 0 ≤ cosQ x by grind)
  have b := Rat.mul_nonneg (show 0 ≤ cosQ x - cosQ y by grind) s0
  have c := Rat.mul_nonneg (show 0 ≤ (y - x) * (67/100) by grind) (show 0 ≤ cosQ x - 7/10 by grind)
  grind
/-- Across the octants. -/
theorem across {x y d : Rat} (h0 : 0 ≤ x) (h1 : x ≤ ee) (g0 : 0 ≤ y) (g1 : y ≤ ee) (h : d ≤ (ee - x) + (ee - y)) (_hd : 0 ≤ d) : d * (23/100) - uu * 20 ≤ cosQ x * cosQ y - sinQ x * sinQ y := by
  have k := corner
  have cx := cos_low h0 h1
  have cy := cos_low g0 g1
  have sx := sin_grows h0 h1 Rat.le_refl
  have sy := sin_grows g0 g1 Rat.le_refl
  have sx0 := sin_low h0 h1
  have sy0 := sin_low g0 g1
  have a := Rat.mul_nonneg (show 0 ≤ cosQ x - cosQ ee by grind) (show 0 ≤ cosQ y - cosQ ee by grind)
  have a1 := Rat.mul_nonneg (show 0 ≤ cosQ x - cosQ ee - (ee - x) * (34/100) by grind) (show 0 ≤ cosQ ee by grind)
  have a2 := Rat.mul_nonneg (show 0 ≤ cosQ y - cosQ ee - (ee - y) * (34/100) by grind) (show 0 ≤ cosQ ee by grind)
  have a3 := Rat.mul_nonneg (show 0 ≤ (ee - x) * (34/100) + (ee - y) * (34/100) by grind) (show 0 ≤ cosQ ee - 7/10 by grind)
  have b := Rat.mul_nonneg (show 0 ≤ sinQ ee - sinQ x by grind) sy0
  have b1 := Rat.mul_nonneg (show 0 ≤ sinQ ee - sinQ y by grind) (show 0 ≤ sinQ ee by grind)
  grind

/-! ### the numbers that come are near the exact ones -/
def xr (r : Int) : Nat := fmul (floatOfInt .f64 r) rad
def zr (r : Int) : Nat := fmul (xr r) (xr r)
theorem xx_xr (a : Int) : xx a = xr (rr a) := rfl
theorem zz_zr (a : Int) : zz a = zr (rr a) := rfl

theorem int_near (r : Int) (h1 : -162000000000 ≤ r) (h2 : r ≤ 162000000000) : isNum (floatOfInt .f64 r) = true ∧ Near (uu * 162000000000 + eta) (rv (floatOfInt .f64 r)) (r : Rat) ∧ Bd 162000000000 (r : Rat) := by
  have hv : rvD (.number (decide (r < 0)) r.natAbs 0) = (r : Rat) := by
    rw [natAbs_rv _ _ _ (Or.inr rfl), Rat.zpow_zero, Rat.mul_one]
  have i1 : -(162000000000 : Rat) ≤ (r : Rat) := by
    have := Rat.intCast_le_intCast.2 h1
    exact this
  have i2 : (r : Rat) ≤ (162000000000 : Rat) := by
    have := Rat.intCast_le_intCast.2 h2
    exact this
  have := nearest_rv (decide (r < 0)) r.natAbs 0 162000000000 (by rw [hv]; exact i1) (by rw [hv]; exact i2) (by decide +kernel)
  rw [hv] at this
  exact ⟨this.1, ⟨this.2.1, this.2.2⟩, i1, i2⟩

theorem xr_near (r : Int) (h1 : -162000000000 ≤ r) (h2 : r ≤ 162000000000) : Sz (7854/10000) (xr r) ∧ Near (uu * (1572/1000)) (rv (xr r)) ((r : Rat) * hh) ∧ Bd (7854/10000) ((r : Rat) * hh) := by
  obtain ⟨a, b, c⟩ := int_near r h1 h2
  have hb : Bd hh hh := by unfold Bd; exact ⟨by unfold hh; decide +kernel, Rat.le_refl⟩
  have n0 : Near 0 (rv rad) hh := by unfold Near hh; constructor <;> grind
  have p := prod_near a rad_sz.1 b n0 c hb (A := 7854/10000) (E' := uu * (1572/1000)) (by unfold hh; decide +kernel) (by decide +kernel) (by unfold hh; decide +kernel)
  have t := (c.mul hb).mono (show _ ≤ (7854/10000 : Rat) by unfold hh; decide +kernel)
  have u := (p.2.bd ((c.mul hb).mono (show _ ≤ (78539817/100000000 : Rat) by unfold hh; decide +kernel))).mono (show _ ≤ (7854/10000 : Rat) by decide +kernel)
  exact ⟨⟨p.1, u.1, u.2⟩, p.2, t⟩

theorem zr_near (r : Int) (h1 : -162000000000 ≤ r) (h2 : r ≤ 162000000000) : Sz (5/8) (zr r) ∧ Near (uu * (31/10)) (rv (zr r)) (((r : Rat) * hh) * ((r : Rat) * hh)) ∧ Near (uu * (617/1000) + eta) (rv (zr r)) (rv (xr r) * rv (xr r)) := by
  obtain ⟨a, b, c⟩ := xr_near r h1 h2
  have hb : Bd (617/1000) (rv (xr r) * rv (xr r)) := (Bd.mul ⟨a.2.1, a.2.2⟩ ⟨a.2.1, a.2.2⟩).mono (by decide +kernel)
  have q := mul_near a.1 a.1 hb (by decide +kernel)
  have p := prod_near a.1 a.1 b b c c (A := 617/1000) (E' := uu * (31/10)) (by decide +kernel) (by decide +kernel) (by decide +kernel)
  exact ⟨mul_sz a a _ (by decide +kernel) (by decide +kernel), p.2, q.2⟩

def cosL : List Rat := 1 :: coefs cosC
def sinL : List Rat := 1 :: coefs sinC
theorem cosL_lip : lipP cosL (626/1000) ≤ 57/100 := by decide +kernel
theorem sinL_lip : lipP sinL (626/1000) ≤ 19/100 := by decide +kernel
theorem cosL_eq (Z : Rat) : evalP cosL Z = 1 + Z * horQ cosC Z 7 := by rw [horQ_coefs]; rfl
theorem sinL_eq (Z : Rat) : evalP sinL Z = 1 + Z * horQ sinC Z 7 := by rw [horQ_coefs]; rfl

theorem cosP_near (r : Int) (h1 : -162000000000 ≤ r) (h2 : r ≤ 162000000000) : Near (uu * 4) (rv (cosP (zr r))) (cosQ ((r : Rat) * hh)) := by
  obtain ⟨hx, b, c⟩ := xr_near r h1 h2
  obtain ⟨hz, z1, z2⟩ := zr_near r h1 h2
  have hD : uu * (617/1000) + eta ≤ 1/1000000 := by decide +kernel
  have hX0 := sq_nonneg (rv (xr r))
  have hZ0 : 0 ≤ rv (zr r) + 1/1000000 := by have := z2.mono hD; unfold Near at this; grind
  have cP := cos_P hz
  have hC := one_plus hZ0 hz.2.2 cP.1 (by grind)
  have g := top_near hz.1 (B := 5/8) ⟨hz.2.1, hz.2.2⟩ (cos_ok hz).1 hC (A1 := 4/10) (A2 := 1002/1000) (E' := uu * (18/10)) (by decide +kernel) (by decide +kernel) (by decide +kernel) (by decide +kernel) (by decide +kernel)
  have hz' : Bd (626/1000) (rv (zr r)) := Bd.mono (M := 5/8) ⟨hz.2.1, hz.2.2⟩ (by decide +kernel)
  have ht' : Bd (626/1000) (((r : Rat) * hh) * ((r : Rat) * hh)) := (c.mul c).mono (by decide +kernel)
  have l := evalP_lip cosL _ _ _ _ hz' ht' z1
  rw [cosL_eq, cosL_eq] at l
  have l2 : Near (uu * (18/10)) _ _ := l.mono (show _ ≤ uu * (18/10) by decide +kernel)
  exact (g.2.trans l2).mono (by decide +kernel)

theorem sinP_near (r : Int) (h1 : -162000000000 ≤ r) (h2 : r ≤ 162000000000) : Near (uu * 4) (rv (sinP (xr r) (zr r))) (sinQ ((r : Rat) * hh)) := by
  obtain ⟨hx, b, c⟩ := xr_near r h1 h2
  obtain ⟨hz, z1, z2⟩ := zr_near r h1 h2
  have hD : uu * (617/1000) + eta ≤ 1/1000000 := by decide +kernel
  have hX0 := sq_nonneg (rv (xr r))
  have hZ0 : 0 ≤ rv (zr r) + 1/1000000 := by have := z2.mono hD; unfold Near at this; grind
  have sP := sin_P hz
  have hg := one_plus hZ0 hz.2.2 sP.1 sP.2
  have g := top_near hz.1 (B := 5/8) ⟨hz.2.1, hz.2.2⟩ (sin_ok hz).1 hg (A1 := 2/10) (A2 := 1002/1000) (E' := uu * (14/10)) (by decide +kernel) (by decide +kernel) (by decide +kernel) (by decide +kernel) (by decide +kernel)
  have hz' : Bd (626/1000) (rv (zr r)) := Bd.mono (M := 5/8) ⟨hz.2.1, hz.2.2⟩ (by decide +kernel)
  have ht' : Bd (626/1000) (((r : Rat) * hh) * ((r : Rat) * hh)) := (c.mul c).mono (by decide +kernel)
  have l := evalP_lip sinL _ _ _ _ hz' ht' z1
  rw [sinL_eq, sinL_eq] at l
  have l2 : Near (uu * (6/10)) _ _ := l.mono (show _ ≤ uu * (6/10) by decide +kernel)
  have g2 := (g.2.trans l2).mono (show _ ≤ uu * 2 by decide +kernel)
  have hgt : Bd (1002/1000) (1 + ((r : Rat) * hh) * ((r : Rat) * hh) * horQ sinC (((r : Rat) * hh) * ((r : Rat) * hh)) 7) := by
    have : Near (uu * (6/10)) (1 + ((r : Rat) * hh) * ((r : Rat) * hh) * horQ sinC (((r : Rat) * hh) * ((r : Rat) * hh)) 7) (1 + rv (zr r) * horQ sinC (rv (zr r)) 7) := by
      unfold Near at l2 ⊢; constructor <;> grind
    exact (this.bd hg).mono (by decide +kernel)
  exact (prod_near hx.1 g.1 b g2 c hgt (A := 788/1000) (E' := uu * 4) (by decide +kernel) (by decide +kernel) (by decide +kernel)).2
end Go.Proofs.Ytlhfmeekbijhgaa
