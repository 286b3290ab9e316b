/- Sines and cosines by their polynomials: which numbers come, and that none of them is infinite. No program in sight. -/
import Derived.Test.YtbafddlkeocpeaaGreatDoorFl
namespace Go.Proofs.YtbafddlkeocpeaaGreatDoor
open Fl

def one : Nat := 4607182418800017408
def sinC : Nat → Nat
  | 0 => 13818544856648471893
  | 1 => 4575957461383581969
  | 2 => 13774824197408792602
  | 3 => 4523617214285662004
  | 4 => 13716528800881525988
  | 5 => 4460272573143870729
  | 6 => 13648976655441704991
  | _ => 4389130328383466826
def cosC : Nat → Nat
  | 0 => 13826050856027422720
  | 1 => 4586165620538955093
  | 2 => 13787419979223755799
  | 3 => 4537941361671905306
  | 4 => 13732177094651715420
  | 5 => 4477122120089393304
  | 6 => 13666517717442657437
  | _ => 4407590220077447199

/-- From the last coefficient downwards. -/
def hor (c : Nat → Nat) (z : Nat) : Nat → Nat
  | 0 => c 7
  | j + 1 => fadd (c (6 - j)) (fmul z (hor c z j))
def sinP (x z : Nat) : Nat := fmul x (fadd one (fmul z (hor sinC z 7)))
def cosP (z : Nat) : Nat := fadd one (fmul z (hor cosC z 7))

/-- Coefficients of size at most a half. -/
def Halves (c : Nat → Nat) : Prop := ∀ k, isNum (c k) = true ∧ -(1/2) ≤ rv (c k) ∧ rv (c k) ≤ 1/2

theorem sin_halves : Halves sinC := by
  intro k
  match k with
  | 0 | 1 | 2 | 3 | 4 | 5 | 6 => exact ⟨by decide +kernel, by decide +kernel, by decide +kernel⟩
  | k + 7 => exact ⟨show isNum 4389130328383466826 = true by decide +kernel, show -(1/2) ≤ rv 4389130328383466826 by decide +kernel, show rv 4389130328383466826 ≤ 1/2 by decide +kernel⟩
theorem cos_halves : Halves cosC := by
  intro k
  match k with
  | 0 | 1 | 2 | 3 | 4 | 5 | 6 => exact ⟨by decide +kernel, by decide +kernel, by decide +kernel⟩
  | k + 7 => exact ⟨show isNum 4407590220077447199 = true by decide +kernel, show -(1/2) ≤ rv 4407590220077447199 by decide +kernel, show rv 4407590220077447199 ≤ 1/2 by decide +kernel⟩

theorem eta_small : 0 < eta ∧ eta ≤ 1/1000000000000000000000 := ⟨p2_pos _, by decide +kernel⟩
theorem uu_val : uu = 1 / 9007199254740992 := rfl
theorem big_1023 : (1000 : Rat) < (2 : Rat) ^ (1023 : Int) := by decide +kernel

/-- Products and sums of small numbers. -/
theorem mul_small {x y : Nat} (hx : isNum x = true) (hy : isNum y = true) (A : Rat) (h1 : -A ≤ rv x * rv y) (h2 : rv x * rv y ≤ A) (hA : A ≤ 1000) :
    isNum (fmul x y) = true ∧ -(uu * A + eta) ≤ rv (fmul x y) - rv x * rv y ∧ rv (fmul x y) - rv x * rv y ≤ uu * A + eta :=
  mul_rv hx hy A h1 h2 (by have := big_1023; grind)
theorem add_small {x y : Nat} (hx : isNum x = true) (hy : isNum y = true) (A : Rat) (h1 : -A ≤ rv x + rv y) (h2 : rv x + rv y ≤ A) (hA : A ≤ 1000) :
    isNum (fadd x y) = true ∧ -(uu * A + eta) ≤ rv (fadd x y) - (rv x + rv y) ∧ rv (fadd x y) - (rv x + rv y) ≤ uu * A + eta :=
  add_rv hx hy A h1 h2 (by have := big_1023; grind)

theorem mul_abs {x y X Y : Rat} (h1 : -X ≤ x) (h2 : x ≤ X) (h3 : -Y ≤ y) (h4 : y ≤ Y) : -(X * Y) ≤ x * y ∧ x * y ≤ X * Y := by
  have a : 0 ≤ (X - x) * (Y - y) := Rat.mul_nonneg (by grind) (by grind)
  have b : 0 ≤ (X + x) * (Y + y) := Rat.mul_nonneg (by grind) (by grind)
  have c : 0 ≤ (X - x) * (Y + y) := Rat.mul_nonneg (by grind) (by grind)
  have d : 0 ≤ (X + x) * (Y - y) := Rat.mul_nonneg (by grind) (by grind)
  constructor <;> grind

/-- A number within [-b, b]. -/
def Sz (b : Rat) (x : Nat) : Prop := isNum x = true ∧ -b ≤ rv x ∧ rv x ≤ b

theorem mul_sz {x y : Nat} {a b : Rat} (hx : Sz a x) (hy : Sz b y) (c : Rat) (h : a * b ≤ 1000) (hc : a * b + (uu * (a * b) + eta) ≤ c) : Sz c (fmul x y) := by
  obtain ⟨hx, x1, x2⟩ := hx
  obtain ⟨hy, y1, y2⟩ := hy
  have m := mul_abs x1 x2 y1 y2
  have := mul_small hx hy (a * b) m.1 m.2 h
  exact ⟨this.1, by grind, by grind⟩
theorem add_sz {x y : Nat} {a b : Rat} (hx : Sz a x) (hy : Sz b y) (c : Rat) (h : a + b ≤ 1000) (hc : a + b + (uu * (a + b) + eta) ≤ c) : Sz c (fadd x y) := by
  obtain ⟨hx, x1, x2⟩ := hx
  obtain ⟨hy, y1, y2⟩ := hy
  have := add_small hx hy (a + b) (by grind) (by grind) h
  exact ⟨this.1, by grind, by grind⟩

theorem hor_sz {c : Nat → Nat} (hc : Halves c) {z : Nat} (hz : Sz (5/8) z) (j : Nat) : Sz 2 (hor c z j) ∧ Sz (13/10) (fmul z (hor c z j)) := by
  have step : ∀ y, Sz 2 y → Sz (13/10) (fmul z y) := fun y hy => mul_sz hz hy _ (by decide +kernel) (by decide +kernel)
  induction j with
  | zero =>
    have h0 : Sz 2 (hor c z 0) := by
      have := hc 7
      exact ⟨this.1, by simp only [hor]; grind, by simp only [hor]; grind⟩
    exact ⟨h0, step _ h0⟩
  | succ j ih =>
    have h0 : Sz 2 (hor c z (j + 1)) := by
      have hk := hc (6 - j)
      exact add_sz (a := 1/2) (b := 13/10) ⟨hk.1, hk.2.1, hk.2.2⟩ ih.2 _ (by decide +kernel) (by decide +kernel)
    exact ⟨h0, step _ h0⟩

theorem one_sz : Sz 1 one := ⟨by decide +kernel, by decide +kernel, by decide +kernel⟩
theorem top_sz {c : Nat → Nat} (hc : Halves c) {z : Nat} (hz : Sz (5/8) z) : Sz 3 (fadd one (fmul z (hor c z 7))) := by
  exact add_sz one_sz (hor_sz hc hz 7).2 _ (by decide +kernel) (by decide +kernel)
theorem sinP_sz {x z : Nat} (hx : Sz 1 x) (hz : Sz (5/8) z) : Sz 4 (sinP x z) := by
  exact mul_sz hx (top_sz sin_halves hz) _ (by decide +kernel) (by decide +kernel)

/-! ### an angle's quarter, its rest as a number, and the square -/
def nrmT (a : Int) : Int := a % 1296000000000
def qq (a : Int) : Int := (nrmT a + 162000000000) / 324000000000
def rr (a : Int) : Int := nrmT a - qq a * 324000000000
def rad : Nat := 4437543736006956352
def xx (a : Int) : Nat := fmul (floatOfInt .f64 (rr a)) rad
def zz (a : Int) : Nat := fmul (xx a) (xx a)
def sinV (a : Int) : Nat := if qq a % 4 = 0 then sinP (xx a) (zz a) else if qq a % 4 = 1 then cosP (zz a) else if qq a % 4 = 2 then Op.negFloat .f64 (sinP (xx a) (zz a)) else Op.negFloat .f64 (cosP (zz a))
def cosV (a : Int) : Nat := if qq a % 4 = 0 then cosP (zz a) else if qq a % 4 = 1 then Op.negFloat .f64 (sinP (xx a) (zz a)) else if qq a % 4 = 2 then Op.negFloat .f64 (cosP (zz a)) else sinP (xx a) (zz a)

theorem qq_bd (a : Int) : 0 ≤ qq a ∧ qq a ≤ 4 := by unfold qq nrmT; omega
theorem rr_bd (a : Int) : -162000000000 ≤ rr a ∧ rr a ≤ 162000000000 := by unfold rr qq nrmT; omega

theorem int_sz (n : Int) (b : Nat) (h1 : -(b : Int) ≤ n) (h2 : n ≤ b) (hb : b ≤ 1000000000000) : Sz ((b : Rat) + (uu * (b : Rat) + eta)) (floatOfInt .f64 n) := by
  have hv : rvD (.number (decide (n < 0)) n.natAbs 0) = (n : Rat) := by
    rw [natAbs_rv _ _ _ (Or.inr rfl), Rat.zpow_zero, Rat.mul_one]
  have hB : (b : Rat) ≤ 1000000000000 := by
    have : (b : Rat) ≤ ((1000000000000 : Nat) : Rat) := Rat.natCast_le_natCast.2 hb
    exact this
  have i1 : -(b : Rat) ≤ (n : Rat) := by
    have := Rat.intCast_le_intCast.2 h1
    rw [Rat.intCast_neg, Rat.intCast_natCast] at this
    exact this
  have i2 : (n : Rat) ≤ (b : Rat) := by
    have := Rat.intCast_le_intCast.2 h2
    rw [Rat.intCast_natCast] at this
    exact this
  have hbig : (1000000000000 : Rat) < (2 : Rat) ^ (1023 : Int) := by decide +kernel
  have := nearest_rv (decide (n < 0)) n.natAbs 0 (b : Rat) (by rw [hv]; exact i1) (by rw [hv]; exact i2) (by grind)
  rw [hv] at this
  exact ⟨this.1, show _ ≤ rv (Ieee.double.nearest (decide (n < 0)) n.natAbs 0) by grind, show rv (Ieee.double.nearest (decide (n < 0)) n.natAbs 0) ≤ _ by grind⟩

theorem rad_sz : Sz (4848136811096 / 1000000000000000000000000) rad := ⟨by decide +kernel, by decide +kernel, by decide +kernel⟩
theorem Sz.mono {a b : Rat} {x : Nat} (h : Sz a x) (hab : a ≤ b) : Sz b x := ⟨h.1, by have := h.2.1; grind, by have := h.2.2; grind⟩
theorem xx_sz (a : Int) : Sz (7854/10000) (xx a) := by
  have := rr_bd a
  have h1 := int_sz (rr a) 162000000000 (by omega) (by omega) (by omega)
  have h2 : Sz 162000000001 (floatOfInt .f64 (rr a)) := h1.mono (by decide +kernel)
  exact mul_sz h2 rad_sz _ (by decide +kernel) (by decide +kernel)
theorem zz_sz (a : Int) : Sz (5/8) (zz a) := mul_sz (xx_sz a) (xx_sz a) _ (by decide +kernel) (by decide +kernel)
theorem rr_num (a : Int) : isNum (floatOfInt .f64 (rr a)) = true := (int_sz (rr a) 162000000000 (by have := rr_bd a; omega) (by have := rr_bd a; omega) (by omega)).1

theorem neg_sz {b : Rat} {x : Nat} (h : Sz b x) : Sz b (Op.negFloat .f64 x) := by
  have := neg_rv h.1
  unfold fneg at this
  exact ⟨this.1, by rw [this.2]; have := h.2.2; grind, by rw [this.2]; have := h.2.1; grind⟩
theorem sinV_sz (a : Int) : Sz 4 (sinV a) := by
  have h1 : Sz 4 (sinP (xx a) (zz a)) := sinP_sz ((xx_sz a).mono (by decide +kernel)) (zz_sz a)
  have h2 : Sz 4 (cosP (zz a)) := (top_sz cos_halves (zz_sz a)).mono (by decide +kernel)
  unfold sinV
  split
  · exact h1
  · split
    · exact h2
    · split
      · exact neg_sz h1
      · exact neg_sz h2
theorem cosV_sz (a : Int) : Sz 4 (cosV a) := by
  have h1 : Sz 4 (sinP (xx a) (zz a)) := sinP_sz ((xx_sz a).mono (by decide +kernel)) (zz_sz a)
  have h2 : Sz 4 (cosP (zz a)) := (top_sz cos_halves (zz_sz a)).mono (by decide +kernel)
  unfold cosV
  split
  · exact h2
  · split
    · exact neg_sz h1
    · split
      · exact neg_sz h2
      · exact h1
theorem cosV_zero : cosV 0 = 4607182418800017408 := by decide +kernel
end Go.Proofs.YtbafddlkeocpeaaGreatDoor
