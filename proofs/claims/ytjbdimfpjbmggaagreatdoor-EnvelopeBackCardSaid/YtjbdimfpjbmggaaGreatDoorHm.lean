/- The numbers of 128 bits of GCM, as plain naturals: moved by a place, sums, products; the laws of a field. Nothing of Go. -/
set_option linter.unusedVariables false
set_option linter.unusedSimpArgs false
namespace Go.Proofs.YtjbdimfpjbmggaaGreatDoor.Hm

def B : Nat := 2 ^ 128
def R : Nat := 0xe1 * 2 ^ 120
/-- Moved by a place. -/
def mv (v : Nat) : Nat := (v / 2) ^^^ (if v % 2 = 1 then R else 0)
def gv (y : Nat) : Nat → Nat
  | 0 => y
  | k + 1 => mv (gv y k)
/-- The sum of the first k terms of a product. -/
def gz (x y : Nat) : Nat → Nat
  | 0 => 0
  | k + 1 => if x.testBit (127 - k) then gz x y k ^^^ gv y k else gz x y k
def gm (x y : Nat) : Nat := gz x y 128
def one : Nat := 2 ^ 127

theorem xor_lt {a b : Nat} (ha : a < 2 ^ 128) (hb : b < 2 ^ 128) : a ^^^ b < 2 ^ 128 := Nat.xor_lt_two_pow ha hb
theorem mv_lt {v : Nat} (h : v < 2 ^ 128) : mv v < 2 ^ 128 := by
  unfold mv
  refine xor_lt (by omega) ?_
  split
  · decide
  · decide
theorem gv_lt {y : Nat} (h : y < 2 ^ 128) (k : Nat) : gv y k < 2 ^ 128 := by
  induction k with
  | zero => exact h
  | succ k ih => exact mv_lt ih
theorem gz_lt {x y : Nat} (h : y < 2 ^ 128) (k : Nat) : gz x y k < 2 ^ 128 := by
  induction k with
  | zero => show 0 < _; decide
  | succ k ih =>
    show (if _ then _ else _) < _
    split
    · exact xor_lt ih (gv_lt h k)
    · exact ih
theorem gm_lt {x y : Nat} (h : y < 2 ^ 128) : gm x y < 2 ^ 128 := gz_lt h 128
theorem xor_left_comm (a b c : Nat) : a ^^^ (b ^^^ c) = b ^^^ (a ^^^ c) := by rw [← Nat.xor_assoc, Nat.xor_comm a b, Nat.xor_assoc]
theorem xor_swap (a b c d : Nat) : (a ^^^ b) ^^^ (c ^^^ d) = (a ^^^ c) ^^^ (b ^^^ d) := by
  rw [Nat.xor_assoc, Nat.xor_assoc, xor_left_comm b c d]
theorem mv_xor (a b : Nat) : mv (a ^^^ b) = mv a ^^^ mv b := by
  unfold mv
  have h2 : (a ^^^ b) % 2 = (a % 2) ^^^ (b % 2) := Nat.xor_mod_two_pow (n := 1)
  rw [Nat.xor_div_two, h2]
  rcases Nat.mod_two_eq_zero_or_one a with ha | ha <;> rcases Nat.mod_two_eq_zero_or_one b with hb | hb <;> rw [ha, hb]
  · simp
  · simp [Nat.xor_assoc]
  · simp [Nat.xor_assoc, Nat.xor_comm R]
  · simp only [Nat.xor_self, if_true]
    rw [xor_swap, Nat.xor_self]
    simp
theorem gv_xor (a b k : Nat) : gv (a ^^^ b) k = gv a k ^^^ gv b k := by
  induction k with
  | zero => rfl
  | succ k ih => show mv _ = mv _ ^^^ mv _; rw [ih, mv_xor]
theorem gv_mv (y k : Nat) : gv (mv y) k = mv (gv y k) := by
  induction k with
  | zero => rfl
  | succ k ih => show mv _ = mv _; rw [ih]; rfl
theorem gz_xor (x a b k : Nat) : gz x (a ^^^ b) k = gz x a k ^^^ gz x b k := by
  induction k with
  | zero => show 0 = 0 ^^^ 0; decide
  | succ k ih =>
    show (if _ then _ else _) = (if _ then _ else _) ^^^ (if _ then _ else _)
    split
    · rw [ih, gv_xor, xor_swap]
    · exact ih
theorem gz_mv (x y k : Nat) : gz x (mv y) k = mv (gz x y k) := by
  induction k with
  | zero => show 0 = mv 0; decide
  | succ k ih =>
    show (if _ then _ else _) = mv (if _ then _ else _)
    split
    · rw [ih, gv_mv, mv_xor]
    · exact ih
theorem gz_gv (x y k j : Nat) : gz x (gv y j) k = gv (gz x y k) j := by
  induction j with
  | zero => rfl
  | succ j ih => show gz x (mv (gv y j)) k = mv _; rw [gz_mv, ih]
theorem gz_zero (x k : Nat) : gz x 0 k = 0 := by
  have h := gz_xor x 0 0 k
  rw [Nat.xor_self] at h
  have h2 : gz x 0 k ^^^ gz x 0 k = 0 := Nat.xor_self _
  rwa [← h] at h2
/-- Two products' sums change places. -/
theorem gz_gz (x y z j : Nat) (k : Nat) : gz x (gz y z j) k = gz y (gz x z k) j := by
  induction k with
  | zero => show 0 = gz y 0 j; rw [gz_zero]
  | succ k ih =>
    show (if _ then _ else _) = gz y (if _ then _ else _) j
    split
    · rw [ih, gz_xor, gz_gv]
    · exact ih

theorem gv_one (k : Nat) (h : k ≤ 127) : gv one k = 2 ^ (127 - k) := by
  induction k with
  | zero => rfl
  | succ k ih =>
    show mv (gv one k) = _
    rw [ih (by omega)]
    obtain ⟨j, hj⟩ : ∃ j, 127 - k = j + 1 := ⟨126 - k, by omega⟩
    have hj2 : 127 - (k + 1) = j := by omega
    rw [hj, hj2]
    unfold mv
    have e1 : 2 ^ (j + 1) / 2 = 2 ^ j := by rw [Nat.pow_succ]; omega
    have e2 : 2 ^ (j + 1) % 2 = 0 := by rw [Nat.pow_succ]; omega
    rw [e1, e2]
    simp
/-- The number that one times it is. -/
theorem gz_one (x : Nat) (hx : x < 2 ^ 128) (k : Nat) (hk : k ≤ 128) : gz x one k = x / 2 ^ (128 - k) * 2 ^ (128 - k) := by
  induction k with
  | zero =>
    show 0 = _
    rw [Nat.div_eq_of_lt (by simpa using hx)]
  | succ k ih =>
    show (if _ then _ else _) = _
    rw [ih (by omega), gv_one k (by omega)]
    have hj : 128 - k = (128 - (k + 1)) + 1 := by omega
    have hj2 : 127 - k = 128 - (k + 1) := by omega
    rw [hj, hj2]
    generalize 128 - (k + 1) = j
    have hb : x.testBit j = decide (x / 2 ^ j % 2 = 1) := by rw [Nat.testBit_eq_decide_div_mod_eq]
    rw [hb]
    have e1 : x / 2 ^ (j + 1) = x / 2 ^ j / 2 := by rw [Nat.pow_succ, Nat.div_div_eq_div_mul]
    rw [e1, Nat.pow_succ]
    have e2 : x / 2 ^ j / 2 * (2 ^ j * 2) = 2 ^ (j + 1) * (x / 2 ^ j / 2) := by rw [Nat.pow_succ, Nat.mul_comm]
    rw [e2]
    by_cases h1 : x / 2 ^ j % 2 = 1
    · rw [if_pos (decide_eq_true h1)]
      have e3 : 2 ^ (j + 1) * (x / 2 ^ j / 2) ^^^ 2 ^ j = 2 ^ (j + 1) * (x / 2 ^ j / 2) + 2 ^ j := by
        apply Nat.eq_of_testBit_eq
        intro i
        have hlt : 2 ^ j < 2 ^ (j + 1) := Nat.pow_lt_pow_right (by decide) (by omega)
        have h0 := Nat.testBit_two_pow_mul_add (x / 2 ^ j / 2) (b := 0) (i := j + 1) (Nat.two_pow_pos _) i
        rw [Nat.add_zero] at h0
        rw [Nat.testBit_xor, h0, Nat.testBit_two_pow_mul_add _ hlt]
        by_cases hi : i < j + 1
        · simp [hi]
        · simp only [hi, if_false, Nat.testBit_two_pow]
          have : ¬ j = i := by omega
          simp [this]
      rw [e3, Nat.pow_succ]
      have e4 : x / 2 ^ j = 2 * (x / 2 ^ j / 2) + 1 := by omega
      generalize x / 2 ^ j / 2 = q at *
      rw [e4, Nat.add_mul, Nat.one_mul, Nat.mul_comm 2 q, Nat.mul_assoc, Nat.mul_comm q, Nat.mul_comm 2, Nat.mul_comm (2 ^ j)]
    · rw [if_neg (by simpa using h1)]
      have e4 : x / 2 ^ j = 2 * (x / 2 ^ j / 2) := by omega
      rw [Nat.pow_succ]
      conv => rhs; rw [e4]
      generalize x / 2 ^ j / 2 = q
      rw [Nat.mul_comm 2 q, Nat.mul_assoc, Nat.mul_comm q, Nat.mul_comm 2, Nat.mul_comm (2 ^ j)]
theorem gm_one {x : Nat} (hx : x < 2 ^ 128) : gm x one = x := by
  unfold gm
  rw [gz_one x hx 128 (Nat.le_refl _)]
  simp
theorem gm_swap (x y z : Nat) : gm x (gm y z) = gm y (gm x z) := gz_gz x y z 128 128
theorem gm_comm {x y : Nat} (hx : x < 2 ^ 128) (hy : y < 2 ^ 128) : gm x y = gm y x := by
  have := gm_swap x y one
  rwa [gm_one hx, gm_one hy] at this
theorem one_gm {x : Nat} (hx : x < 2 ^ 128) : gm one x = x := by rw [gm_comm (by decide) hx, gm_one hx]
theorem gm_assoc {x y z : Nat} (hx : x < 2 ^ 128) (hy : y < 2 ^ 128) (hz : z < 2 ^ 128) : gm x (gm y z) = gm (gm x y) z := by
  rw [gm_comm (gm_lt hy) hz, gm_swap z x y, gm_comm hz hy]
theorem gm_xor (x a b : Nat) : gm x (a ^^^ b) = gm x a ^^^ gm x b := gz_xor x a b 128
theorem xor_gm {x a b : Nat} (hx : x < 2 ^ 128) (ha : a < 2 ^ 128) (hb : b < 2 ^ 128) : gm (a ^^^ b) x = gm a x ^^^ gm b x := by
  rw [gm_comm (xor_lt ha hb) hx, gm_xor, gm_comm hx ha, gm_comm hx hb]
theorem gm_zero (x : Nat) : gm x 0 = 0 := gz_zero x 128
theorem zero_gm {x : Nat} (hx : x < 2 ^ 128) : gm 0 x = 0 := by rw [gm_comm (by decide) hx, gm_zero]

/-! ### squares; every number that is not 0 has one that times it is one -/
def sq (x : Nat) : Nat := gm x x
def fr (x : Nat) : Nat → Nat
  | 0 => x
  | k + 1 => sq (fr x k)
theorem sq_lt {x : Nat} (hx : x < 2 ^ 128) : sq x < 2 ^ 128 := gm_lt hx
theorem fr_lt {x : Nat} (hx : x < 2 ^ 128) (k : Nat) : fr x k < 2 ^ 128 := by
  induction k with
  | zero => exact hx
  | succ k ih => exact sq_lt ih
theorem sq_xor {a b : Nat} (ha : a < 2 ^ 128) (hb : b < 2 ^ 128) : sq (a ^^^ b) = sq a ^^^ sq b := by
  unfold sq
  rw [gm_xor, xor_gm ha ha hb, xor_gm hb ha hb, gm_comm hb ha]
  rw [Nat.xor_assoc, ← Nat.xor_assoc (gm a b), Nat.xor_self, Nat.zero_xor]
theorem sq_gm {a b : Nat} (ha : a < 2 ^ 128) (hb : b < 2 ^ 128) : sq (gm a b) = gm (sq a) (sq b) := by
  unfold sq
  rw [← gm_assoc ha hb (gm_lt hb), gm_swap b a b, gm_assoc ha ha (gm_lt hb)]
theorem fr_xor {a b : Nat} (ha : a < 2 ^ 128) (hb : b < 2 ^ 128) (k : Nat) : fr (a ^^^ b) k = fr a k ^^^ fr b k := by
  induction k with
  | zero => rfl
  | succ k ih => show sq _ = sq _ ^^^ sq _; rw [ih, sq_xor (fr_lt ha k) (fr_lt hb k)]
theorem fr_gm {a b : Nat} (ha : a < 2 ^ 128) (hb : b < 2 ^ 128) (k : Nat) : fr (gm a b) k = gm (fr a k) (fr b k) := by
  induction k with
  | zero => rfl
  | succ k ih => show sq _ = gm (sq _) (sq _); rw [ih, sq_gm (fr_lt ha k) (fr_lt hb k)]
theorem gm_mv_one {y : Nat} (hy : y < 2 ^ 128) : gm (mv one) y = mv y := by
  rw [gm_comm (mv_lt (by decide)) hy]
  show gz y (mv one) 128 = _
  rw [gz_mv]
  congr 1
  exact gm_one hy
theorem fr_gen : fr (mv one) 128 = mv one := by decide +kernel
theorem fr_one (k : Nat) : fr one k = one := by
  induction k with
  | zero => rfl
  | succ k ih => show sq _ = _; rw [ih]; exact gm_one (by decide)
theorem fr_mv {y : Nat} (hy : y < 2 ^ 128) (h : fr y 128 = y) : fr (mv y) 128 = mv y := by
  have hm : mv one < 2 ^ 128 := mv_lt (by decide)
  rw [← gm_mv_one hy, fr_gm hm hy, h, fr_gen]
theorem fr_gv (k : Nat) : fr (gv one k) 128 = gv one k := by
  induction k with
  | zero => exact fr_one 128
  | succ k ih => exact fr_mv (gv_lt (by decide) k) ih
theorem fr_zero (k : Nat) : fr 0 k = 0 := by
  induction k with
  | zero => rfl
  | succ k ih => show sq _ = 0; rw [ih]; exact gm_zero 0
theorem fr_gz (x k : Nat) : fr (gz x one k) 128 = gz x one k := by
  induction k with
  | zero => exact fr_zero 128
  | succ k ih =>
    have e : gz x one (k + 1) = if x.testBit (127 - k) then gz x one k ^^^ gv one k else gz x one k := rfl
    rw [e]
    split
    · rw [fr_xor (gz_lt (by decide) k) (gv_lt (by decide) k), ih, fr_gv]
    · exact ih
theorem fr_all {x : Nat} (hx : x < 2 ^ 128) : fr x 128 = x := by
  have := fr_gz x 128
  rwa [show gz x one 128 = x from gm_one hx] at this

/-! ### a number that is its own square is 0 or one: by a matrix that turns 'x squared and x' back into x -/
def tab : List Nat := [
  0, 6161591008139076202154902373133594561, 71430717218983613641036104277415506289, 87518597585245962833849474628053070758, 72921817864677867521778898634038080609, 
  163309321578052146879237778733101511783, 126814247099887467207929949960147586332, 133487668004820722767044853458355047125, 108887185710678174598840578861931466132, 
  72978216601350599296199603180564021825, 126976600203468727039316187211004055892, 49689517519420395515082114066310337331, 12764899024296983899235621676887115841, 
  59792954277794326371429463258526948146, 275464514806027128612938827324864, 33882886127255646541338116557250298163, 133385434108064708788808215410435911893, 
  153238470225796905537047657204766862374, 127777348636302309636952298273557535380, 58594334107495617071392172125656399538, 5725366257701666555538562805218717057, 
  159324042485362592547018579093184240551, 149021274876537960721224429182834492454, 94333773739946854309780815578084996199, 161752945482599484730126084874801441767, 
  115575792119390728221592460023876181333, 133436244703473040169882794575366898389, 34751610155981195849944733847405496627, 100972845268357601278728964017462078439, 
  44935323831972008745566419208193456946, 132003651752985294974180122299820886164, 45594221442569777339127844318073854322, 100983558286137050684044238585428660711, 
  140308235276559149970208740923126577813, 92325303522414418149753570460923091879, 26944628100264108509229864938392397555, 81071795988965022717357904530596407232, 
  58275656592719279154056000246173111091, 51613027339492204128265575524803459891, 142140898696765075202304690604976981845, 53639910565545342273528145980335791795, 
  4726979706490419237355323591502507968, 161542955870533464563010084267448332775, 65334779303751560239471195525024588352, 122557457634345817322758110469731963540, 
  79569572988994598121356082874814992321, 9537274821874957483351388617584152641, 109427184872331881977228478262674814292, 96504253903287235160744645914913229863, 
  35809052500294759256374056413191545715, 63089105448741488643398279942380763954, 84108490886122099842324906724524496768, 161537358671016203777973217828391545831, 
  49921000058860506912943830473554996979, 113870918609522322281985099445019275925, 45994406431766860863727072382817147250, 6116654749483988959971426010360459777, 
  88394181539591460295416373139500891046, 93226277353508642900164249188457535015, 123506241354959402090274531190302866772, 72992884249465865451566362034747193217, 
  123492369307601207700488716387690115284, 67288019353279926038130604499846823936, 96617416833907240315124182200439430055, 6161591008139076220601646446843146177, 
  87518597585245962796955986480633967526, 163309321578052146805450802438263305319, 133487668004820722619470900868678634197, 72978216601350599591347508359916847681, 
  49689517519420396105377924425015989043, 59792954277794325190837842541115644722, 33882886127255648902521357992072905011, 153238470225796900814681174335121648678, 
  58594334107495626516125137864946826930, 159324042485362573657552647614603385767, 94333773739946892088712678535246705767, 115575792119390803779456185938199600469, 
  34751610155981346965672185676052334899, 44935323831971706514111515550899780402, 45594221442570381802037651632661207410, 140308235276560358896028355552301283989, 
  26944628100266526360869094196741809907, 58275656592714443450777541729474286387, 142140898696755403795747773571579332437, 4726979706471076424241489524707209152, 
  65334779303712874613243527391433990720, 79569572989071969373811419141996187585, 109427184872177139472317805728312423764, 35809052500604244266195401481916326771, 
  84108490886741069861967596861974058880, 49921000057622566873658450198655872755, 45994406429290980785156311833018898802, 88394181544543220452557894239097387942, 
  123506241345055881775991488991109872980, 123492369287794167071922631989304127700, 96617416873521321572256350997211405223, 87518597506017800282691648887090017190, 
  133487668163277047647999576055766534869, 49689517202507746048320574050840187699, 33882886761080949016636058740424507699, 58594332839845026287895736368243621554, 
  94333771204645691632253875541840295015, 34751615226583747878589791662865156403, 45594211301365579976202439659035564402, 26944648382676130012539518143993095923, 
  142140858131936196492406925677076760405, 65334698174074460006561831602428846656, 109427022612900310258954414150302135636, 84108166368187411435240813705953482624, 
  45993757392183663931702745520977746290, 123504943270841248069084356367027567956, 96614820725092054158442085749046795175, 133492860460135582475628106552095754965, 
  33893271354798018671893119733082947891, 94354540392079830942767997527157175399, 45552672926497301355174195688401803634, 142223934881672753734463413618344281941, 
  109593176112373424743067390032837178708, 46326064391129892899928697286047832434, 95950206727199596221990182218906622887, 32564043359013102798989312672802603315, 
  42894216934927469609366581567841114482, 114910088095513088234682618273958557012, 85316382760920269238759725736663866279, 64161864867486123575827494532326627698, 
  127851678626037577171681551665634892711, 42781086895802961305837899807692839847, 22349210433241643211303706255459310228]
def app (v : Nat) : Nat → List Nat → Nat
  | _, [] => 0
  | j, t :: l => (if v.testBit j then t else 0) ^^^ app v (j + 1) l
theorem app_xor (a b : Nat) : ∀ (l : List Nat) (j : Nat), app (a ^^^ b) j l = app a j l ^^^ app b j l
  | [], _ => by show 0 = 0 ^^^ 0; decide
  | t :: l, j => by
    show (if _ then _ else _) ^^^ _ = ((if _ then _ else _) ^^^ _) ^^^ ((if _ then _ else _) ^^^ _)
    rw [app_xor a b l (j + 1), xor_swap, Nat.testBit_xor]
    congr 1
    cases a.testBit j <;> cases b.testBit j <;> simp
def T (v : Nat) : Nat := app v 0 tab
def cl (x : Nat) : Nat := x % 2 ^ 127
theorem T_basis : ∀ j, j < 128 → T (sq (2 ^ j) ^^^ 2 ^ j) = cl (2 ^ j) := by decide +kernel
theorem T_all : ∀ (k x : Nat), k ≤ 128 → x < 2 ^ k → T (sq x ^^^ x) = cl x := by
  intro k
  induction k with
  | zero =>
    intro x _ hx
    have h0 : x = 0 := by simpa using hx
    subst h0
    decide +kernel
  | succ k ih =>
    intro x hk hx
    have hp : (2 : Nat) ^ k < 2 ^ 128 := Nat.pow_lt_pow_right (by decide) (by omega)
    have hr : x % 2 ^ k < 2 ^ k := Nat.mod_lt _ (Nat.two_pow_pos k)
    rcases Nat.lt_or_ge x (2 ^ k) with h | h
    · exact ih x (by omega) h
    · have hq : x / 2 ^ k = 1 := by
        rw [Nat.pow_succ] at hx
        have h1 : x / 2 ^ k < 2 := Nat.div_lt_of_lt_mul (by omega)
        have h2 : 1 ≤ x / 2 ^ k := (Nat.one_le_div_iff (Nat.two_pow_pos k)).2 h
        omega
      have hx2 : x = x % 2 ^ k ^^^ 2 ^ k := by
        have e := Nat.div_add_mod x (2 ^ k)
        rw [hq, Nat.mul_one] at e
        have e2 : 2 ^ k * 1 + x % 2 ^ k = 2 ^ k * 1 ^^^ x % 2 ^ k := by
          apply Nat.eq_of_testBit_eq
          intro i
          have h0 := Nat.testBit_two_pow_mul_add 1 (b := 0) (i := k) (Nat.two_pow_pos _) i
          rw [Nat.add_zero] at h0
          rw [Nat.testBit_xor, h0, Nat.testBit_two_pow_mul_add _ hr]
          by_cases hi : i < k
          · simp [hi]
          · have : (x % 2 ^ k).testBit i = false := Nat.testBit_lt_two_pow (Nat.lt_of_lt_of_le hr (Nat.pow_le_pow_right (by decide) (by omega)))
            simp [hi, this]
        rw [Nat.mul_one] at e2
        exact e.symm.trans (e2.trans (Nat.xor_comm _ _))
      have hlt : x % 2 ^ k < 2 ^ 128 := Nat.lt_trans hr hp
      have hi := ih (x % 2 ^ k) (by omega) hr
      have hb := T_basis k (by omega)
      rw [hx2, sq_xor hlt hp]
      have e3 : (sq (x % 2 ^ k) ^^^ sq (2 ^ k)) ^^^ (x % 2 ^ k ^^^ 2 ^ k) = (sq (x % 2 ^ k) ^^^ x % 2 ^ k) ^^^ (sq (2 ^ k) ^^^ 2 ^ k) := xor_swap _ _ _ _
      rw [e3]
      show app _ 0 tab = _
      rw [app_xor]
      show T _ ^^^ T _ = _
      rw [hi, hb]
      unfold cl
      rw [Nat.xor_mod_two_pow]
theorem idem {e : Nat} (he : e < 2 ^ 128) (h : gm e e = e) : e = 0 ∨ e = one := by
  have := T_all 128 e (Nat.le_refl _) he
  have h2 : sq e = e := h
  rw [h2, Nat.xor_self] at this
  have h0 : T 0 = 0 := by decide +kernel
  rw [h0] at this
  have h3 : e % 2 ^ 127 = 0 := this.symm
  unfold one
  have : (2 : Nat) ^ 128 = 2 * 2 ^ 127 := by decide
  omega

/-! ### powers -/
def pw (x : Nat) : Nat → Nat
  | 0 => one
  | n + 1 => gm x (pw x n)
theorem pw_lt {x : Nat} (n : Nat) : pw x n < 2 ^ 128 := by
  induction n with
  | zero => show one < _; decide
  | succ n ih => exact gm_lt ih
theorem pw_add {x : Nat} (hx : x < 2 ^ 128) (m n : Nat) : pw x (m + n) = gm (pw x m) (pw x n) := by
  induction m with
  | zero => rw [Nat.zero_add]; show _ = gm one _; rw [one_gm (pw_lt n)]
  | succ m ih => rw [show m + 1 + n = (m + n) + 1 by omega]; show gm x _ = gm (gm x _) _; rw [ih, gm_assoc hx (pw_lt m) (pw_lt n)]
theorem pw_fr {x : Nat} (hx : x < 2 ^ 128) (k : Nat) : fr x k = pw x (2 ^ k) := by
  induction k with
  | zero => show x = gm x one; rw [gm_one hx]
  | succ k ih => show sq _ = _; rw [ih, Nat.pow_succ, Nat.mul_two, pw_add hx]; rfl
theorem inverse {x : Nat} (hx : x < 2 ^ 128) (h0 : x ≠ 0) : ∃ y, y < 2 ^ 128 ∧ gm y x = one := by
  obtain ⟨n, hn⟩ : ∃ n, 2 ^ 128 = n + 2 := ⟨2 ^ 128 - 2, by decide⟩
  have hpow : pw x (n + 2) = x := by rw [← hn, ← pw_fr hx, fr_all hx]
  have hy := pw_lt (x := x) n
  have he : gm (pw x n) x = pw x (n + 1) := by show _ = gm x (pw x n); exact gm_comm hy hx
  have hex : gm (pw x (n + 1)) x = x := by rw [gm_comm (pw_lt _) hx]; exact hpow
  have hee : gm (pw x (n + 1)) (pw x (n + 1)) = pw x (n + 1) := by
    conv => lhs; arg 2; rw [← he]
    rw [gm_swap, hex]
    exact he
  refine ⟨pw x n, hy, ?_⟩
  rw [he]
  rcases idem (pw_lt _) hee with h | h
  · rw [h, zero_gm hx] at hex
    exact absurd hex.symm h0
  · exact h
theorem gm_eq0 {x y : Nat} (hx : x < 2 ^ 128) (hy : y < 2 ^ 128) : gm x y = 0 ↔ x = 0 ∨ y = 0 := by
  constructor
  · intro h
    by_cases h0 : x = 0
    · exact .inl h0
    · obtain ⟨z, hz, e⟩ := inverse hx h0
      right
      rw [← one_gm hy, ← e, ← gm_assoc hz hx hy, h, gm_zero]
  · rintro (rfl | rfl)
    · exact zero_gm hy
    · exact gm_zero x
theorem gm_sure : gm 1 (0x40 * 2 ^ 120) = R := by decide +kernel
end Go.Proofs.YtjbdimfpjbmggaaGreatDoor.Hm
