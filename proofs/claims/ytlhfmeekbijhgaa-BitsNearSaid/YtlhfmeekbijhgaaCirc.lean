/- Sine and cosine, as the program makes them, lie on the circle but for 1e-15. No program in sight. -/
import Derived.Test.YtlhfmeekbijhgaaPoly
namespace Go.Proofs.Ytlhfmeekbijhgaa
open Fl

/-- Within E of each other. -/
def Near (E x y : Rat) : Prop := -E ≤ x - y ∧ x - y ≤ E
def Bd (M x : Rat) : Prop := -M ≤ x ∧ x ≤ M

theorem Near.add {E F x y a b : Rat} (h : Near E x y) (g : Near F a b) : Near (E + F) (x + a) (y + b) := by
  unfold Near at *; constructor <;> grind
theorem Near.trans {E F x y z : Rat} (h : Near E x y) (g : Near F y z) : Near (E + F) x z := by
  unfold Near at *; constructor <;> grind
theorem Near.mono {E F x y : Rat} (h : Near E x y) (g : E ≤ F) : Near F x y := by
  unfold Near at *; constructor <;> grind
theorem Near.bd {E M x y : Rat} (h : Near E x y) (g : Bd M y) : Bd (M + E) x := by
  unfold Near Bd at *; constructor <;> grind
theorem Bd.mono {M N x : Rat} (h : Bd M x) (g : M ≤ N) : Bd N x := by
  unfold Bd at *; constructor <;> grind
theorem Bd.mul {M N x y : Rat} (h : Bd M x) (g : Bd N y) : Bd (M * N) (x * y) := mul_abs h.1 h.2 g.1 g.2
theorem Bd.add {M N x y : Rat} (h : Bd M x) (g : Bd N y) : Bd (M + N) (x + y) := by
  unfold Bd at *; constructor <;> grind
theorem Near.mulLeft {E B x y z : Rat} (h : Near E x y) (g : Bd B z) : Near (B * E) (z * x) (z * y) := by
  have := mul_abs g.1 g.2 h.1 h.2
  unfold Near; constructor <;> grind

theorem mul_near {x y : Nat} (hx : isNum x = true) (hy : isNum y = true) {A : Rat} (h : Bd A (rv x * rv y)) (hA : A ≤ 1000) : isNum (fmul x y) = true ∧ Near (uu * A + eta) (rv (fmul x y)) (rv x * rv y) := by
  have := mul_small hx hy A h.1 h.2 hA
  exact ⟨this.1, this.2.1, this.2.2⟩
theorem add_near {x y : Nat} (hx : isNum x = true) (hy : isNum y = true) {A : Rat} (h : Bd A (rv x + rv y)) (hA : A ≤ 1000) : isNum (fadd x y) = true ∧ Near (uu * A + eta) (rv (fadd x y)) (rv x + rv y) := by
  have := add_small hx hy A h.1 h.2 hA
  exact ⟨this.1, this.2.1, this.2.2⟩

def horQ (c : Nat → Nat) (Z : Rat) : Nat → Rat
  | 0 => rv (c 7)
  | j + 1 => rv (c (6 - j)) + Z * horQ c Z j

/-- The polynomial is reckoned to within E; its exact value is at most M in size. -/
def Ok (c : Nat → Nat) (z : Nat) (j : Nat) (M E : Rat) : Prop :=
  isNum (hor c z j) = true ∧ Near E (rv (hor c z j)) (horQ c (rv z) j) ∧ Bd M (horQ c (rv z) j)

theorem ok_step {c : Nat → Nat} {z j : Nat} {B M E k M' E' A1 A2 : Rat} (hz : isNum z = true) (hB : Bd B (rv z)) (hk : isNum (c (6 - j)) = true ∧ Bd k (rv (c (6 - j)))) (h : Ok c z j M E)
    (a1 : B * (M + E) ≤ A1) (a1' : A1 ≤ 1000) (a2 : k + (A1 + (uu * A1 + eta)) ≤ A2) (a2' : A2 ≤ 1000) (m : k + B * M ≤ M') (e : uu * A2 + eta + (uu * A1 + eta + B * E) ≤ E') : Ok c z (j + 1) M' E' := by
  obtain ⟨h1, h2, h3⟩ := h
  have p := mul_near hz h1 (A := A1) ((hB.mul (h2.bd h3)).mono a1) a1'
  have q := add_near hk.1 p.1 (A := A2) ((hk.2.add (p.2.bd ((hB.mul (h2.bd h3)).mono a1))).mono a2) a2'
  refine ⟨q.1, ?_, (hk.2.add (hB.mul h3)).mono m⟩
  have r := p.2.trans (h2.mulLeft hB)
  have n0 : Near 0 (rv (c (6 - j))) (rv (c (6 - j))) := by unfold Near; constructor <;> grind
  refine (q.2.trans (n0.add r)).mono ?_
  grind

theorem sin_ok {z : Nat} (hz : Sz (5/8) z) : Ok sinC z 7 (861/5000) (uu * (1831/10000)) ∧ Bd (4231/500000) (horQ sinC (rv z) 6) := by
  have hB : Bd (5/8) (rv z) := ⟨hz.2.1, hz.2.2⟩
  have b : ∀ k q, (isNum (sinC k) = true ∧ -q ≤ rv (sinC k) ∧ rv (sinC k) ≤ q) → isNum (sinC k) = true ∧ Bd q (rv (sinC k)) := fun k q h => ⟨h.1, h.2⟩
  have o0 : Ok sinC z 0 (2813/1000000000000000000) (uu * (1/1000000000000000)) := by
    refine ⟨by unfold hor; decide +kernel, ?_, ?_⟩
    · unfold hor horQ Near; constructor <;> (rw [Rat.sub_self]; decide +kernel)
    · unfold horQ Bd; constructor <;> decide +kernel
  have o1 : Ok sinC z 1 (1917/2500000000000000) (uu * (7693/10000000000000000)) := ok_step hz.1 hB (b 6 (7649/10000000000000000) (by decide +kernel)) o0 (A1 := 11/6250000000000000) (A2 := 1917/2500000000000000) (by decide +kernel) (by decide +kernel) (by decide +kernel) (by decide +kernel) (by decide +kernel) (by decide +kernel)
  have o2 : Ok sinC z 2 (1613/10000000000000) (uu * (203/1250000000000)) := ok_step hz.1 hB (b 5 (1607/10000000000000) (by decide +kernel)) o1 (A1 := 2397/5000000000000000) (A2 := 1613/10000000000000) (by decide +kernel) (by decide +kernel) (by decide +kernel) (by decide +kernel) (by decide +kernel) (by decide +kernel)
  have o3 : Ok sinC z 3 (2519/100000000000) (uu * (2541/100000000000)) := ok_step hz.1 hB (b 4 (2507/100000000000) (by decide +kernel)) o2 (A1 := 101/1000000000000) (A2 := 2519/100000000000) (by decide +kernel) (by decide +kernel) (by decide +kernel) (by decide +kernel) (by decide +kernel) (by decide +kernel)
  have o4 : Ok sinC z 4 (1387/500000000) (uu * (2807/1000000000)) := ok_step hz.1 hB (b 3 (2757/1000000000) (by decide +kernel)) o3 (A1 := 197/12500000000) (A2 := 1387/500000000) (by decide +kernel) (by decide +kernel) (by decide +kernel) (by decide +kernel) (by decide +kernel) (by decide +kernel)
  have o5 : Ok sinC z 5 (401/2000000) (uu * (2041/10000000)) := ok_step hz.1 hB (b 2 (993/5000000) (by decide +kernel)) o4 (A1 := 347/200000000) (A2 := 401/2000000) (by decide +kernel) (by decide +kernel) (by decide +kernel) (by decide +kernel) (by decide +kernel) (by decide +kernel)
  have o6 : Ok sinC z 6 (4231/500000) (uu * (8717/1000000)) := ok_step hz.1 hB (b 1 (1667/200000) (by decide +kernel)) o5 (A1 := 251/2000000) (A2 := 4231/500000) (by decide +kernel) (by decide +kernel) (by decide +kernel) (by decide +kernel) (by decide +kernel) (by decide +kernel)
  have o7 : Ok sinC z 7 (861/5000) (uu * (1831/10000)) := ok_step hz.1 hB (b 0 (417/2500) (by decide +kernel)) o6 (A1 := 529/100000) (A2 := 861/5000) (by decide +kernel) (by decide +kernel) (by decide +kernel) (by decide +kernel) (by decide +kernel) (by decide +kernel)
  exact ⟨o7, o6.2.2⟩

theorem cos_ok {z : Nat} (hz : Sz (5/8) z) : Ok cosC z 7 (5269/10000) (uu * (2907/5000)) ∧ Bd (4257/100000) (horQ cosC (rv z) 6) := by
  have hB : Bd (5/8) (rv z) := ⟨hz.2.1, hz.2.2⟩
  have b : ∀ k q, (isNum (cosC k) = true ∧ -q ≤ rv (cosC k) ∧ rv (cosC k) ≤ q) → isNum (cosC k) = true ∧ Bd q (rv (cosC k)) := fun k q h => ⟨h.1, h.2⟩
  have o0 : Ok cosC z 0 (4781/100000000000000000) (uu * (1/1000000000000000)) := by
    refine ⟨by unfold hor; decide +kernel, ?_, ?_⟩
    · unfold hor horQ Near; constructor <;> (rw [Rat.sub_self]; decide +kernel)
    · unfold horQ Bd; constructor <;> decide +kernel
  have o1 : Ok cosC z 1 (1153/100000000000000) (uu * (579/50000000000000)) := ok_step hz.1 hB (b 6 (1149/100000000000000) (by decide +kernel)) o0 (A1 := 299/10000000000000000) (A2 := 1153/100000000000000) (by decide +kernel) (by decide +kernel) (by decide +kernel) (by decide +kernel) (by decide +kernel) (by decide +kernel)
  have o2 : Ok cosC z 2 (1049/500000000000) (uu * (1057/500000000000)) := ok_step hz.1 hB (b 5 (2089/1000000000000) (by decide +kernel)) o1 (A1 := 901/125000000000000) (A2 := 1049/500000000000) (by decide +kernel) (by decide +kernel) (by decide +kernel) (by decide +kernel) (by decide +kernel) (by decide +kernel)
  have o3 : Ok cosC z 3 (693/2500000000) (uu * (7/25000000)) := ok_step hz.1 hB (b 4 (2757/10000000000) (by decide +kernel)) o2 (A1 := 1313/1000000000000) (A2 := 693/2500000000) (by decide +kernel) (by decide +kernel) (by decide +kernel) (by decide +kernel) (by decide +kernel) (by decide +kernel)
  have o4 : Ok cosC z 4 (2501/100000000) (uu * (2537/100000000)) := ok_step hz.1 hB (b 3 (1241/50000000) (by decide +kernel)) o3 (A1 := 867/5000000000) (A2 := 2501/100000000) (by decide +kernel) (by decide +kernel) (by decide +kernel) (by decide +kernel) (by decide +kernel) (by decide +kernel)
  have o5 : Ok cosC z 5 (1407/1000000) (uu * (9/6250)) := ok_step hz.1 hB (b 2 (139/100000) (by decide +kernel)) o4 (A1 := 313/20000000) (A2 := 1407/1000000) (by decide +kernel) (by decide +kernel) (by decide +kernel) (by decide +kernel) (by decide +kernel) (by decide +kernel)
  have o6 : Ok cosC z 6 (4257/100000) (uu * (1109/25000)) := ok_step hz.1 hB (b 1 (521/12500) (by decide +kernel)) o5 (A1 := 1759/2000000) (A2 := 4257/100000) (by decide +kernel) (by decide +kernel) (by decide +kernel) (by decide +kernel) (by decide +kernel) (by decide +kernel)
  have o7 : Ok cosC z 7 (5269/10000) (uu * (2907/5000)) := ok_step hz.1 hB (b 0 (5001/10000) (by decide +kernel)) o6 (A1 := 1331/50000) (A2 := 5269/10000) (by decide +kernel) (by decide +kernel) (by decide +kernel) (by decide +kernel) (by decide +kernel) (by decide +kernel)
  exact ⟨o7, o6.2.2⟩

theorem top_near {c : Nat → Nat} {z : Nat} {B M E V A1 A2 E' : Rat} (hz : isNum z = true) (hB : Bd B (rv z)) (h : Ok c z 7 M E) (hV : Bd V (1 + rv z * horQ c (rv z) 7))
    (a1 : B * (M + E) ≤ A1) (a1' : A1 ≤ 1000) (a2 : V + (0 + (uu * A1 + eta + B * E)) ≤ A2) (a2' : A2 ≤ 1000) (e : uu * A2 + eta + (0 + (uu * A1 + eta + B * E)) ≤ E') :
    isNum (fadd one (fmul z (hor c z 7))) = true ∧ Near E' (rv (fadd one (fmul z (hor c z 7)))) (1 + rv z * horQ c (rv z) 7) := by
  obtain ⟨h1, h2, h3⟩ := h
  have p := mul_near hz h1 (A := A1) ((hB.mul (h2.bd h3)).mono a1) a1'
  have r := p.2.trans (h2.mulLeft hB)
  have h1o : rv one = 1 := by decide +kernel
  have n0 : Near 0 (rv one) (1 : Rat) := by rw [h1o]; unfold Near; constructor <;> grind
  have n1 := n0.add r
  have q := add_near one_sz.1 p.1 (A := A2) ((n1.bd hV).mono a2) a2'
  exact ⟨q.1, (q.2.trans n1).mono e⟩

theorem prod_near {x y : Nat} {v w E F V W A E' : Rat} (hx : isNum x = true) (hy : isNum y = true) (h : Near E (rv x) v) (g : Near F (rv y) w) (hV : Bd V v) (hW : Bd W w)
    (a : (V + E) * (W + F) ≤ A) (a' : A ≤ 1000) (e : uu * A + eta + ((V + E) * F + W * E) ≤ E') : isNum (fmul x y) = true ∧ Near E' (rv (fmul x y)) (v * w) := by
  have p := mul_near hx hy (A := A) (((h.bd hV).mul (g.bd hW)).mono a) a'
  have r1 := g.mulLeft (h.bd hV)
  have r2 := h.mulLeft hW
  rw [Rat.mul_comm w, Rat.mul_comm w] at r2
  exact ⟨p.1, (p.2.trans (r1.trans r2)).mono e⟩

/-! ### the identity, by its coefficients -/
def evalP : List Rat → Rat → Rat
  | [], _ => 0
  | a :: l, z => a + z * evalP l z
def addP : List Rat → List Rat → List Rat
  | [], m => m
  | l, [] => l
  | a :: l, b :: m => (a + b) :: addP l m
def scaleP (k : Rat) (l : List Rat) : List Rat := l.map (k * ·)
def mulP : List Rat → List Rat → List Rat
  | [], _ => []
  | a :: l, m => addP (scaleP a m) (0 :: mulP l m)
def sizeP : List Rat → Rat → Rat
  | [], _ => 0
  | a :: l, z => (if a < 0 then -a else a) + z * sizeP l z
theorem evalP_add (l m : List Rat) (z : Rat) : evalP (addP l m) z = evalP l z + evalP m z := by
  induction l generalizing m with
  | nil => simp [addP, evalP]; grind
  | cons a l ih =>
    cases m with
    | nil => simp [addP, evalP]; grind
    | cons b m => simp only [addP, evalP, ih]; grind
theorem evalP_scale (k : Rat) (l : List Rat) (z : Rat) : evalP (scaleP k l) z = k * evalP l z := by
  induction l with
  | nil => simp [scaleP, evalP]
  | cons a l ih => unfold scaleP at *; simp only [List.map_cons, evalP, ih]; grind
theorem evalP_mul (l m : List Rat) (z : Rat) : evalP (mulP l m) z = evalP l z * evalP m z := by
  induction l with
  | nil => simp [mulP, evalP]
  | cons a l ih => simp only [mulP, evalP_add, evalP_scale, evalP, ih]; grind
theorem evalP_bd (l : List Rat) (z b : Rat) (h : Bd b z) : Bd (sizeP l b) (evalP l z) := by
  induction l with
  | nil => unfold Bd evalP sizeP; constructor <;> grind
  | cons a l ih =>
    have m := h.mul ih
    have : Bd (if a < 0 then -a else a) a := by unfold Bd; split <;> constructor <;> grind
    exact this.add m

def coefs (c : Nat → Nat) : List Rat := [rv (c 0), rv (c 1), rv (c 2), rv (c 3), rv (c 4), rv (c 5), rv (c 6), rv (c 7)]
theorem horQ_coefs (c : Nat → Nat) (Z : Rat) : horQ c Z 7 = evalP (coefs c) Z := by
  simp only [horQ, coefs, evalP]
  grind
def circP : List Rat := addP (addP (mulP (1 :: coefs cosC) (1 :: coefs cosC)) (0 :: mulP (1 :: coefs sinC) (1 :: coefs sinC))) [-1]
theorem circP_small : sizeP circP (5/8) ≤ uu * (11/100) := by decide +kernel
theorem circ_id (Z : Rat) (h : Bd (5/8) Z) : Near (uu * (11/100)) ((1 + Z * horQ cosC Z 7) * (1 + Z * horQ cosC Z 7) + Z * ((1 + Z * horQ sinC Z 7) * (1 + Z * horQ sinC Z 7))) 1 := by
  have e : evalP circP Z = (1 + Z * horQ cosC Z 7) * (1 + Z * horQ cosC Z 7) + Z * ((1 + Z * horQ sinC Z 7) * (1 + Z * horQ sinC Z 7)) - 1 := by
    unfold circP
    rw [evalP_add, evalP_add, evalP_mul, horQ_coefs, horQ_coefs]
    simp only [evalP, evalP_mul]
    grind
  have b := (evalP_bd circP Z (5/8) h).mono circP_small
  rw [e] at b
  exact b

theorem core_low {x z : Nat} (hx : isNum x = true) (hX : Bd (137/250) (rv x)) (hz : Sz (5/8) z) (hB : Bd (3/10) (rv z))
    (hC : Bd (1001/1000) (1 + rv z * horQ cosC (rv z) 7)) (hg : Bd (1001/1000) (1 + rv z * horQ sinC (rv z) 7)) :
    isNum (fmul (cosP z) (cosP z)) = true ∧ isNum (fmul (sinP x z) (sinP x z)) = true ∧
    Near (uu * (18361/5000)) (rv (fmul (cosP z) (cosP z))) ((1 + rv z * horQ cosC (rv z) 7) * (1 + rv z * horQ cosC (rv z) 7)) ∧
    Near (uu * (15691/10000)) (rv (fmul (sinP x z) (sinP x z))) ((rv x * (1 + rv z * horQ sinC (rv z) 7)) * (rv x * (1 + rv z * horQ sinC (rv z) 7))) := by
  have c := top_near hz.1 hB (cos_ok hz).1 hC (A1 := 1581/10000) (A2 := 10011/10000) (E' := uu * (13337/10000)) (by decide +kernel) (by decide +kernel) (by decide +kernel) (by decide +kernel) (by decide +kernel)
  have c2 := prod_near c.1 c.1 c.2 c.2 hC hC (A := 10021/10000) (E' := uu * (18361/5000)) (by decide +kernel) (by decide +kernel) (by decide +kernel)
  have g := top_near hz.1 hB (sin_ok hz).1 hg (A1 := 517/10000) (A2 := 10011/10000) (E' := uu * (5539/5000)) (by decide +kernel) (by decide +kernel) (by decide +kernel) (by decide +kernel) (by decide +kernel)
  have n0 : Near 0 (rv x) (rv x) := by unfold Near; constructor <;> grind
  have s := prod_near hx g.1 n0 g.2 hX hg (A := 2743/5000) (E' := uu * (11557/10000)) (by decide +kernel) (by decide +kernel) (by decide +kernel)
  have hV := (hX.mul hg).mono (show _ ≤ (2743/5000 : Rat) by decide +kernel)
  have s2 := prod_near s.1 s.1 s.2 s.2 hV hV (A := 301/1000) (E' := uu * (15691/10000)) (by decide +kernel) (by decide +kernel) (by decide +kernel)
  exact ⟨c2.1, s2.1, c2.2, s2.2⟩

theorem core_high {x z : Nat} (hx : isNum x = true) (hX : Bd (3927/5000) (rv x)) (hz : Sz (5/8) z) (hB : Bd (5/8) (rv z))
    (hC : Bd (859/1000) (1 + rv z * horQ cosC (rv z) 7)) (hg : Bd (1001/1000) (1 + rv z * horQ sinC (rv z) 7)) :
    isNum (fmul (cosP z) (cosP z)) = true ∧ isNum (fmul (sinP x z) (sinP x z)) = true ∧
    Near (uu * (34041/10000)) (rv (fmul (cosP z) (cosP z))) ((1 + rv z * horQ cosC (rv z) 7) * (1 + rv z * horQ cosC (rv z) 7)) ∧
    Near (uu * (8413/2500)) (rv (fmul (sinP x z) (sinP x z))) ((rv x * (1 + rv z * horQ sinC (rv z) 7)) * (rv x * (1 + rv z * horQ sinC (rv z) 7))) := by
  have c := top_near hz.1 hB (cos_ok hz).1 hC (A1 := 1647/5000) (A2 := 8591/10000) (E' := uu * (15519/10000)) (by decide +kernel) (by decide +kernel) (by decide +kernel) (by decide +kernel) (by decide +kernel)
  have c2 := prod_near c.1 c.1 c.2 c.2 hC hC (A := 7379/10000) (E' := uu * (34041/10000)) (by decide +kernel) (by decide +kernel) (by decide +kernel)
  have g := top_near hz.1 hB (sin_ok hz).1 hg (A1 := 1077/10000) (A2 := 10011/10000) (E' := uu * (12233/10000)) (by decide +kernel) (by decide +kernel) (by decide +kernel) (by decide +kernel) (by decide +kernel)
  have n0 : Near 0 (rv x) (rv x) := by unfold Near; constructor <;> grind
  have s := prod_near hx g.1 n0 g.2 hX hg (A := 3931/5000) (E' := uu * (1747/1000)) (by decide +kernel) (by decide +kernel) (by decide +kernel)
  have hV := (hX.mul hg).mono (show _ ≤ (3931/5000 : Rat) by decide +kernel)
  have s2 := prod_near s.1 s.1 s.2 s.2 hV hV (A := 3091/5000) (E' := uu * (8413/2500)) (by decide +kernel) (by decide +kernel) (by decide +kernel)
  exact ⟨c2.1, s2.1, c2.2, s2.2⟩

theorem rv_c0 : rv (cosC 0) = -(1/2) := by decide +kernel
theorem rv_s0 : Bd (17/100) (rv (sinC 0)) ∧ rv (sinC 0) ≤ -(1/10) := by unfold Bd; exact ⟨⟨by decide +kernel, by decide +kernel⟩, by decide +kernel⟩

theorem sq_nonneg (x : Rat) : 0 ≤ x * x := by
  rcases Rat.le_total (a := 0) (b := x) with h | h
  · exact Rat.mul_nonneg h h
  · have := Rat.mul_nonneg (a := -x) (b := -x) (by grind) (by grind)
    grind

/-- A polynomial's value 1 + Z * P where P is negative. -/
theorem one_plus {Z P : Rat} (h0 : 0 ≤ Z + 1/1000000) (h1 : Z ≤ 5/8) (p1 : -(53/100) ≤ P) (p2 : P ≤ 0) : Bd (1001/1000) (1 + Z * P) := by
  have a := Rat.mul_nonneg h0 (show 0 ≤ -P by grind)
  have b := Rat.mul_nonneg (show 0 ≤ 5/8 - Z by grind) (show 0 ≤ -P by grind)
  unfold Bd
  constructor <;> grind
theorem one_plus_high {Z P : Rat} (h0 : 3/10 ≤ Z) (h1 : Z ≤ 5/8) (p1 : -(53/100) ≤ P) (p2 : P ≤ -(473/1000)) : Bd (859/1000) (1 + Z * P) := by
  have a := Rat.mul_nonneg (show 0 ≤ Z - 3/10 by grind) (show 0 ≤ -P by grind)
  have b := Rat.mul_nonneg (show 0 ≤ 5/8 - Z by grind) (show 0 ≤ -P by grind)
  unfold Bd
  constructor <;> grind

theorem cos_P {z : Nat} (hz : Sz (5/8) z) : -(53/100) ≤ horQ cosC (rv z) 7 ∧ horQ cosC (rv z) 7 ≤ -(473/1000) := by
  have h := (cos_ok hz).2
  have m := (Bd.mul ⟨hz.2.1, hz.2.2⟩ h).mono (show _ ≤ (267/10000 : Rat) by decide +kernel)
  have e : horQ cosC (rv z) 7 = rv (cosC 0) + rv z * horQ cosC (rv z) 6 := rfl
  rw [e, rv_c0]
  unfold Bd at m
  constructor <;> grind
theorem sin_P {z : Nat} (hz : Sz (5/8) z) : -(53/100) ≤ horQ sinC (rv z) 7 ∧ horQ sinC (rv z) 7 ≤ 0 := by
  have h := (sin_ok hz).2
  have m := (Bd.mul ⟨hz.2.1, hz.2.2⟩ h).mono (show _ ≤ (6/1000 : Rat) by decide +kernel)
  have e : horQ sinC (rv z) 7 = rv (sinC 0) + rv z * horQ sinC (rv z) 6 := rfl
  have c := rv_s0
  rw [e]
  unfold Bd at m c
  constructor <;> grind

/-- The sum of the two squares is 1 but for 7.5 units. -/
theorem squares_near {x z : Nat} (hx : Sz (7854/10000) x) (hz : Sz (5/8) z) (hxz : Near (uu * (617/1000) + eta) (rv z) (rv x * rv x)) :
    isNum (fmul (cosP z) (cosP z)) = true ∧ isNum (fmul (sinP x z) (sinP x z)) = true ∧ Near (uu * (751/100)) (rv (fmul (cosP z) (cosP z)) + rv (fmul (sinP x z) (sinP x z))) 1 := by
  have hD : uu * (617/1000) + eta ≤ 1/1000000 := by decide +kernel
  have hxz2 := hxz.mono hD
  have hX0 := sq_nonneg (rv x)
  have hZ0 : 0 ≤ rv z + 1/1000000 := by unfold Near at hxz2; grind
  have hZ1 := hz.2.2
  have cP := cos_P hz
  have sP := sin_P hz
  have hg := one_plus hZ0 hZ1 sP.1 sP.2
  have id := circ_id (rv z) ⟨hz.2.1, hz.2.2⟩
  -- the two cases
  have key : isNum (fmul (cosP z) (cosP z)) = true ∧ isNum (fmul (sinP x z) (sinP x z)) = true ∧
      Near (uu * (67693/10000)) (rv (fmul (cosP z) (cosP z)) + rv (fmul (sinP x z) (sinP x z))) ((1 + rv z * horQ cosC (rv z) 7) * (1 + rv z * horQ cosC (rv z) 7) + (rv x * (1 + rv z * horQ sinC (rv z) 7)) * (rv x * (1 + rv z * horQ sinC (rv z) 7))) := by
    by_cases hlow : rv z ≤ 3/10
    · have hC := one_plus hZ0 hZ1 cP.1 (by grind)
      have hXX : rv x * rv x ≤ 3/10 + 1/1000000 := by unfold Near at hxz2; grind
      have hXb : Bd (548/1000) (rv x) := by
        unfold Bd
        constructor
        · rcases Rat.le_total (a := -(548/1000)) (b := rv x) with h | h
          · exact h
          · exfalso
            have := Rat.mul_nonneg (show 0 ≤ -(548/1000) - rv x by grind) (show 0 ≤ 548/1000 - rv x by grind)
            grind
        · rcases Rat.le_total (a := rv x) (b := 548/1000) with h | h
          · exact h
          · exfalso
            have := Rat.mul_nonneg (show 0 ≤ rv x - 548/1000 by grind) (show 0 ≤ 548/1000 + rv x by grind)
            grind
      have := core_low hx.1 (hXb.mono (by decide +kernel)) hz ⟨by grind, hlow⟩ hC hg
      exact ⟨this.1, this.2.1, (this.2.2.1.add this.2.2.2).mono (by decide +kernel)⟩
    · have hhigh : 3/10 ≤ rv z := by grind
      have hC := one_plus_high hhigh hZ1 cP.1 cP.2
      have := core_high hx.1 (Bd.mono ⟨hx.2.1, hx.2.2⟩ (by decide +kernel)) hz ⟨hz.2.1, hz.2.2⟩ hC hg
      exact ⟨this.1, this.2.1, (this.2.2.1.add this.2.2.2).mono (by decide +kernel)⟩
  refine ⟨key.1, key.2.1, ?_⟩
  have gg := hg.mul hg
  have d := hxz.mulLeft gg
  generalize 1 + rv z * horQ sinC (rv z) 7 = g at *
  generalize 1 + rv z * horQ cosC (rv z) 7 = C at *
  have e1 : rv x * g * (rv x * g) = g * g * (rv x * rv x) := by grind
  have e2 : rv z * (g * g) = g * g * rv z := by grind
  have k := key.2.2
  rw [e1] at k
  rw [e2] at id
  have d' : Near (1001/1000 * (1001/1000) * (uu * (617/1000) + eta)) (g * g * (rv x * rv x)) (g * g * rv z) := by
    unfold Near at d ⊢; constructor <;> grind
  have n0 : Near 0 (C * C) (C * C) := by unfold Near; constructor <;> grind
  exact ((k.trans (n0.add d')).trans id).mono (by decide +kernel)

theorem circle_near {x z : Nat} (hx : Sz (7854/10000) x) (hz : Sz (5/8) z) (hxz : Near (uu * (617/1000) + eta) (rv z) (rv x * rv x)) (p q : Nat)
    (hpq : (p = fmul (cosP z) (cosP z) ∧ q = fmul (sinP x z) (sinP x z)) ∨ (q = fmul (cosP z) (cosP z) ∧ p = fmul (sinP x z) (sinP x z))) :
    isNum p = true ∧ isNum q = true ∧ isNum (fadd p q) = true ∧ isNum (fsub (fadd p q) one) = true ∧ Bd (uu * (86/10)) (rv (fsub (fadd p q) one)) := by
  have h := squares_near hx hz hxz
  have hn : isNum p = true ∧ isNum q = true ∧ Near (uu * (751/100)) (rv p + rv q) 1 := by
    rcases hpq with ⟨rfl, rfl⟩ | ⟨rfl, rfl⟩
    · exact h
    · refine ⟨h.2.1, h.1, ?_⟩
      rw [Rat.add_comm]; exact h.2.2
  obtain ⟨h1, h2, h3⟩ := hn
  have hb : Bd (1001/1000) (rv p + rv q) := (h3.bd (M := 1) (by unfold Bd; constructor <;> decide +kernel)).mono (by decide +kernel)
  have t := add_near h1 h2 hb (by decide +kernel)
  have t1 := t.2.trans h3
  have h1o : rv one = 1 := by decide +kernel
  have hd : Bd (uu * (852/100)) (rv (fadd p q) - rv one) := by
    have := t1.mono (show _ ≤ uu * (852/100) by decide +kernel)
    rw [h1o]; exact this
  have r := sub_rv t.1 one_sz.1 (uu * (852/100)) hd.1 hd.2 (by decide +kernel)
  refine ⟨h1, h2, t.1, r.1, ?_⟩
  have rn : Near (uu * (uu * (852/100)) + eta) (rv (fsub (fadd p q) one)) (rv (fadd p q) - rv one) := ⟨r.2.1, r.2.2⟩
  exact (rn.bd hd).mono (by decide +kernel)

theorem mul_neg_neg {x y : Nat} (hx : isNum x = true) (hy : isNum y = true) : fmul (Op.negFloat .f64 x) (Op.negFloat .f64 y) = fmul x y := by
  obtain ⟨s, m, p, e⟩ := num_of hx
  obtain ⟨t, n, q, f⟩ := num_of hy
  have e' := read_neg e
  have f' := read_neg f
  unfold fneg at e' f'
  simp [fmul, Ieee.Format.mul, e, f, e', f', Ieee.Datum.product]
theorem neg_neg (x : Nat) : Op.negFloat .f64 (Op.negFloat .f64 x) = x := by
  unfold Op.negFloat; rw [Nat.xor_assoc, Nat.xor_self, Nat.xor_zero]

def circV (a : Int) : Nat := fsub (fadd (fmul (sinV a) (sinV a)) (fmul (cosV a) (cosV a))) one

theorem zz_near (a : Int) : Near (uu * (617/1000) + eta) (rv (zz a)) (rv (xx a) * rv (xx a)) := by
  have hx := xx_sz a
  have hb : Bd (617/1000) (rv (xx a) * rv (xx a)) := (Bd.mul ⟨hx.2.1, hx.2.2⟩ ⟨hx.2.1, hx.2.2⟩).mono (by decide +kernel)
  exact (mul_near hx.1 hx.1 hb (by decide +kernel)).2

theorem circ_all (a : Int) : isNum (fmul (sinV a) (sinV a)) = true ∧ isNum (fmul (cosV a) (cosV a)) = true ∧ isNum (fadd (fmul (sinV a) (sinV a)) (fmul (cosV a) (cosV a))) = true ∧ isNum (circV a) = true ∧ Bd (uu * (86/10)) (rv (circV a)) := by
  have hx1 : Sz 1 (xx a) := (xx_sz a).mono (by decide +kernel)
  have ns := (sinP_sz hx1 (zz_sz a)).1
  have nc := (top_sz cos_halves (zz_sz a)).1
  have c := circle_near (xx_sz a) (zz_sz a) (zz_near a)
  have m1 := mul_neg_neg ns ns
  have m2 := mul_neg_neg (x := cosP (zz a)) (y := cosP (zz a)) nc nc
  refine c _ _ ?_
  unfold sinV cosV
  split
  · right; exact ⟨rfl, rfl⟩
  · split
    · left; exact ⟨rfl, m1⟩
    · split
      · right; exact ⟨m2, m1⟩
      · left; exact ⟨m2, rfl⟩

theorem order_lt {x y : Nat} (hx : isNum x = true) (hy : isNum y = true) (h : rv x < rv y) : Ieee.double.order x y = some .lt := by rw [order_rv hx hy, if_pos h]
theorem order_gt {x y : Nat} (hx : isNum x = true) (hy : isNum y = true) (h : rv y < rv x) : Ieee.double.order x y = some .gt := by
  rw [order_rv hx hy, if_neg (by grind), if_neg (by grind)]

theorem circ_lt (a : Int) : Ieee.double.order (circV a) 4382569440205035030 = some .lt := by
  obtain ⟨_, _, _, h1, h2⟩ := circ_all a
  have k : uu * (86/10) < rv 4382569440205035030 := by decide +kernel
  refine order_lt h1 (by decide +kernel) ?_
  unfold Bd at h2; grind
theorem circ_gt (a : Int) : Ieee.double.order (circV a) 13605941477059810838 = some .gt := by
  obtain ⟨_, _, _, h1, h2⟩ := circ_all a
  have k : rv 13605941477059810838 < -(uu * (86/10)) := by decide +kernel
  refine order_gt h1 (by decide +kernel) ?_
  unfold Bd at h2; grind

/-! ### a quarter and a half further -/
theorem turn_facts (a d k : Int) (hd : d = k * 324000000000) (hk : k = 1 ∨ k = 2) : rr (nrmT a + d) = rr a ∧ qq (nrmT a + d) % 4 = (qq a + k) % 4 := by
  unfold rr qq nrmT
  subst hd
  rcases hk with rfl | rfl <;> omega
theorem xx_eq {a b : Int} (h : rr a = rr b) : xx a = xx b ∧ zz a = zz b := by unfold zz xx; rw [h]; exact ⟨rfl, rfl⟩
theorem quarter (a : Int) : cosV (nrmT a + 324000000000) = Op.negFloat .f64 (sinV a) := by
  obtain ⟨h1, h2⟩ := turn_facts a 324000000000 1 rfl (Or.inl rfl)
  obtain ⟨e1, e2⟩ := xx_eq h1
  have := qq_bd a
  unfold cosV sinV
  rw [h2, e1, e2]
  have c : qq a % 4 = 0 ∨ qq a % 4 = 1 ∨ qq a % 4 = 2 ∨ qq a % 4 = 3 := by omega
  rcases c with c | c | c | c
  · have d : (qq a + 1) % 4 = 1 := by omega
    simp [c, d]
  · have d : (qq a + 1) % 4 = 2 := by omega
    simp [c, d]
  · have d : (qq a + 1) % 4 = 3 := by omega
    simp [c, d, neg_neg]
  · have d : (qq a + 1) % 4 = 0 := by omega
    simp [c, d, neg_neg]
theorem half (a : Int) : sinV (nrmT a + 648000000000) = Op.negFloat .f64 (sinV a) := by
  obtain ⟨h1, h2⟩ := turn_facts a 648000000000 2 rfl (Or.inr rfl)
  obtain ⟨e1, e2⟩ := xx_eq h1
  have := qq_bd a
  unfold sinV
  rw [h2, e1, e2]
  have c : qq a % 4 = 0 ∨ qq a % 4 = 1 ∨ qq a % 4 = 2 ∨ qq a % 4 = 3 := by omega
  rcases c with c | c | c | c
  · have d : (qq a + 2) % 4 = 2 := by omega
    simp [c, d]
  · have d : (qq a + 2) % 4 = 3 := by omega
    simp [c, d]
  · have d : (qq a + 2) % 4 = 0 := by omega
    simp [c, d, neg_neg]
  · have d : (qq a + 2) % 4 = 1 := by omega
    simp [c, d, neg_neg]
end Go.Proofs.Ytlhfmeekbijhgaa
