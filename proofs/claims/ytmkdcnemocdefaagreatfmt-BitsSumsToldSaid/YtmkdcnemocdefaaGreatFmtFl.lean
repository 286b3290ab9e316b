/- Floating point numbers as exact fractions: what a product, a sum, a comparison of two finite numbers gives, and how far it is from the exact one. No program in sight. -/
import Derived.Laws.FloatArith
namespace Go.Proofs.YtmkdcnemocdefaaGreatFmt.Fl
open Ieee

def isNum (x : Nat) : Bool := match double.read x with | .number .. => true | _ => false
def fmul (x y : Nat) : Nat := (double.mul x y).getD 0
def fadd (x y : Nat) : Nat := (double.add x y).getD 0
def fsub (x y : Nat) : Nat := (double.sub x y).getD 0
def fdiv (x y : Nat) : Nat := (double.div x y).getD 0
def fneg (x : Nat) : Nat := Op.negFloat .f64 x

def rvD : Datum → Rat
  | .number s m p => (if s then -(m : Rat) else (m : Rat)) * (2 : Rat) ^ p
  | _ => 0
def rv (x : Nat) : Rat := rvD (double.read x)

theorem num_of {x : Nat} (h : isNum x = true) : ∃ s m p, double.read x = .number s m p := by
  unfold isNum at h
  split at h
  · rename_i s m p e; exact ⟨s, m, p, e⟩
  · cases h

theorem isNum_of {x : Nat} {s m p} (h : double.read x = .number s m p) : isNum x = true := by
  unfold isNum; rw [h]

theorem mul_num {x y : Nat} (hx : isNum x = true) (hy : isNum y = true) : double.mul x y = some (fmul x y) := by
  obtain ⟨s, m, p, e⟩ := num_of hx
  obtain ⟨t, n, q, f⟩ := num_of hy
  simp [fmul, Format.mul, e, f, Datum.product]

theorem add_num {x y : Nat} (hx : isNum x = true) (hy : isNum y = true) : double.add x y = some (fadd x y) := by
  obtain ⟨s, m, p, e⟩ := num_of hx
  obtain ⟨t, n, q, f⟩ := num_of hy
  simp [fadd, Format.add, e, f, Datum.sum]

theorem sub_num {x y : Nat} (hx : isNum x = true) (hy : isNum y = true) : double.sub x y = some (fsub x y) := by
  obtain ⟨s, m, p, e⟩ := num_of hx
  obtain ⟨t, n, q, f⟩ := num_of hy
  simp [fsub, Format.sub, e, f, Datum.sum, Datum.opposite]

/-! ### cutting digits off, to the nearest -/
theorem cut_spec (neg : Bool) (n drop : Nat) :
    2 * (Toward.even.cut neg n drop * 2 ^ drop) ≤ 2 * n + 2 ^ drop ∧ 2 * n ≤ 2 * (Toward.even.cut neg n drop * 2 ^ drop) + 2 ^ drop ∧ n / 2 ^ drop ≤ Toward.even.cut neg n drop := by
  unfold Toward.cut
  by_cases hd : drop ≤ n.log2 + 2
  · rw [Nat.min_eq_left hd]
    simp only [Nat.one_shiftLeft]
    have hg : 0 < 2 ^ drop := Nat.two_pow_pos _
    generalize 2 ^ drop = g at *
    have h1 := Nat.div_add_mod n g
    have h2 := Nat.mod_lt n hg
    generalize n / g = q at *
    generalize n % g = r at *
    subst h1
    have e1 : ∀ b : Bool, (q + b.toNat) * g = g * q + b.toNat * g := by intro b; rw [Nat.add_mul, Nat.mul_comm q]
    rw [e1]
    generalize hb : (decide (g < 2 * r) || g == 2 * r && q % 2 == 1) = b
    have hT : b = true → g ≤ 2 * r := by
      intro e; rw [e] at hb; simp at hb; omega
    have hF : b = false → 2 * r ≤ g := by
      intro e; rw [e] at hb; simp at hb; omega
    cases b
    · have := hF rfl; simp; omega
    · have := hT rfl; simp; omega
  · rw [Nat.min_eq_right (by omega)]
    simp only [Nat.one_shiftLeft]
    have hlt : n < 2 ^ (n.log2 + 1) := Nat.lt_log2_self
    have e2 : 2 ^ (n.log2 + 2) = 2 * 2 ^ (n.log2 + 1) := by rw [Nat.pow_succ 2 (n.log2 + 1)]; omega
    have hle : 2 ^ (n.log2 + 2) ≤ 2 ^ drop := Nat.pow_le_pow_right (by omega) (by omega)
    have hn : n < 2 ^ (n.log2 + 2) := by omega
    rw [Nat.div_eq_of_lt hn, Nat.mod_eq_of_lt hn, Nat.div_eq_of_lt (by omega)]
    have c1 : ¬ 2 ^ (n.log2 + 2) < 2 * n := by omega
    have c2 : ¬ 2 ^ (n.log2 + 2) = 2 * n := by omega
    have c3 : (2 ^ (n.log2 + 2) == 2 * n) = false := by simpa using c2
    rw [c3]; simp [c1]; omega

/-! ### reading back what was written -/
theorem read_word (neg : Bool) (a kept : Nat) (h53 : kept ≤ 2 ^ 53) (hk : a = 0 ∨ 2 ^ 52 ≤ kept) (ha : a ≤ 2044) :
    ∃ m e : Nat, double.read (double.word neg (min (a * double.binade + kept) double.infRung)) = .number neg m (double.leastPlace + (e : Nat)) ∧ m * 2 ^ e = kept * 2 ^ a := by
  have hb : double.binade = 4503599627370496 := rfl
  have hi : double.infRung = 9218868437227405312 := rfl
  have hs : double.signWeight = 9223372036854775808 := rfl
  have hl : double.leastPlace = -1074 := rfl
  have hmin : min (a * double.binade + kept) double.infRung = a * 4503599627370496 + kept := by
    rw [hb, hi]; omega
  rw [hmin]
  have hw : double.word neg (a * 4503599627370496 + kept) / double.signWeight % 2 = (if neg then 1 else 0) ∧ double.word neg (a * 4503599627370496 + kept) % double.signWeight = a * 4503599627370496 + kept := by
    unfold Format.word
    rw [hs]
    cases neg <;> simp <;> omega
  unfold Format.read
  simp only [hw.2, hw.1, hb, hi, hl]
  have hneg : ((if neg = true then 1 else 0 : Nat) == 1) = neg := by cases neg <;> rfl
  rw [hneg]
  by_cases h0 : a * 4503599627370496 + kept < 4503599627370496
  · rw [if_pos h0]
    have : a = 0 := by omega
    subst this
    exact ⟨kept, 0, by simp, by simp⟩
  · rw [if_neg h0, if_pos (by omega)]
    by_cases h1 : kept = 2 ^ 53
    · subst h1
      refine ⟨4503599627370496, a + 1, ?_, ?_⟩
      · have e1 : (a * 4503599627370496 + 2 ^ 53) % 4503599627370496 = 0 := by omega
        have e2 : (a * 4503599627370496 + 2 ^ 53) / 4503599627370496 - 1 = a + 1 := by omega
        rw [e1, e2]
      · rw [Nat.pow_succ, show (2 : Nat) ^ 53 = 4503599627370496 * 2 by rfl, Nat.mul_assoc, Nat.mul_comm 2]
    · have h2 : 2 ^ 52 ≤ kept := by omega
      refine ⟨kept, a, ?_, rfl⟩
      have e1 : 4503599627370496 + (a * 4503599627370496 + kept) % 4503599627370496 = kept := by omega
      have e2 : (a * 4503599627370496 + kept) / 4503599627370496 - 1 = a := by omega
      rw [e1, e2]

/-! ### rounding -/
theorem p2_pos (n : Int) : (0 : Rat) < (2 : Rat) ^ n := Rat.zpow_pos (by decide)
theorem p2_add (m n : Int) : (2 : Rat) ^ (m + n) = (2 : Rat) ^ m * (2 : Rat) ^ n := Rat.zpow_add (by decide) m n
theorem p2_nat (n : Nat) : (2 : Rat) ^ (n : Int) = ((2 ^ n : Nat) : Rat) := by
  rw [Rat.zpow_natCast]
  induction n with
  | zero => rfl
  | succ n ih => rw [Rat.pow_succ, ih, Nat.pow_succ, Rat.natCast_mul]; rfl

/-- A size, rounded. -/
theorem nearest_spec (neg : Bool) (mag : Nat) (place : Int) (hm : mag ≠ 0) (hp : place + mag.log2 ≤ 1022) :
    ∃ (m e kept a up drop : Nat), double.read (double.nearest neg mag place) = .number neg m (-1074 + (e : Nat)) ∧ m * 2 ^ e = kept * 2 ^ a ∧
      place - up + drop = -1074 + a ∧ 2 * (kept * 2 ^ drop) ≤ 2 * (mag * 2 ^ up) + 2 ^ drop ∧ 2 * (mag * 2 ^ up) ≤ 2 * (kept * 2 ^ drop) + 2 ^ drop ∧
      (a = 0 ∨ (a : Int) - 1074 = place + mag.log2 - 52) ∧ (drop = 0 → kept = mag * 2 ^ up) := by
  have hl : double.leastPlace = -1074 := rfl
  have hf : (double.fractionBits : Int) = 52 := rfl
  unfold Format.nearest
  rw [if_neg hm]
  simp only [hl, hf]
  generalize hlast : max (place + (mag.log2 : Int) - 52) (-1074) = last
  have h1 : place + (mag.log2 : Int) - 52 ≤ last := by rw [← hlast]; exact Int.le_max_left _ _
  have h2 : -1074 ≤ last := by rw [← hlast]; exact Int.le_max_right _ _
  have h3 : last = -1074 ∨ last = place + mag.log2 - 52 := by omega
  obtain ⟨a, ha⟩ : ∃ a : Nat, last = -1074 + (a : Int) := ⟨(last + 1074).toNat, by omega⟩
  subst ha
  have e1 : (-1074 + (a : Int) - -1074).toNat = a := by omega
  rw [e1]
  generalize hup : (place - (-1074 + (a : Int))).toNat = up
  generalize hdr : ((-1074 + (a : Int)) - place).toNat = drop
  have hud : place - up + drop = -1074 + a := by omega
  rw [Nat.shiftLeft_eq]
  have hc := cut_spec neg (mag * 2 ^ up) drop
  generalize hk : Toward.even.cut neg (mag * 2 ^ up) drop = kept at *
  obtain ⟨c1, c2, c3⟩ := hc
  have hlt : mag < 2 ^ (mag.log2 + 1) := Nat.lt_log2_self
  have hge : 2 ^ mag.log2 ≤ mag := Nat.log2_self_le hm
  have hD : 0 < 2 ^ drop := Nat.two_pow_pos _
  have hU : 0 < 2 ^ up := Nat.two_pow_pos _
  have k53 : kept ≤ 2 ^ 53 := by
    have g1 : mag * 2 ^ up < 2 ^ (mag.log2 + 1) * 2 ^ up := Nat.mul_lt_mul_of_pos_right hlt hU
    have g2 : 2 ^ (mag.log2 + 1) * 2 ^ up ≤ 2 ^ 53 * 2 ^ drop := by
      rw [← Nat.pow_add, ← Nat.pow_add]; exact Nat.pow_le_pow_right (by omega) (by omega)
    rcases Nat.lt_or_ge (2 ^ 53) kept with h | h
    · have g3 : (2 ^ 53 + 1) * 2 ^ drop ≤ kept * 2 ^ drop := Nat.mul_le_mul_right _ h
      rw [Nat.add_mul] at g3
      omega
    · exact h
  have k52 : a = 0 ∨ 2 ^ 52 ≤ kept := by
    rcases h3 with h3 | h3
    · left; omega
    · right
      refine Nat.le_trans ?_ c3
      rw [Nat.le_div_iff_mul_le hD, ← Nat.pow_add]
      refine Nat.le_trans ?_ (Nat.mul_le_mul_right _ hge)
      rw [← Nat.pow_add]
      exact Nat.pow_le_pow_right (by omega) (by omega)
  obtain ⟨m, e, hr, hme⟩ := read_word neg a kept k53 k52 (by omega)
  rw [hl] at hr
  refine ⟨m, e, kept, a, up, drop, hr, hme, hud, c1, c2, by omega, ?_⟩
  intro h0
  subst h0
  rw [← hk]
  simp [Toward.cut]
  omega

/-- 2^-53 and half of the least size. -/
def uu : Rat := 1 / 9007199254740992
def eta : Rat := (2 : Rat) ^ (-1075 : Int)

theorem p2_le_iff (m n : Int) (h : (2 : Rat) ^ m < (2 : Rat) ^ n) : m < n := by
  rcases Int.lt_or_le m n with g | g
  · exact g
  · exfalso
    obtain ⟨k, hk⟩ : ∃ k : Nat, m = n + (k : Int) := ⟨(m - n).toNat, by omega⟩
    subst hk
    rw [p2_add, p2_nat] at h
    have h1 : (1 : Rat) ≤ ((2 ^ k : Nat) : Rat) := by
      have : ((1 : Nat) : Rat) ≤ ((2 ^ k : Nat) : Rat) := Rat.natCast_le_natCast.2 (Nat.two_pow_pos k)
      exact this
    have hn := p2_pos n
    have := Rat.mul_le_mul_of_nonneg_left h1 (Rat.le_of_lt hn)
    grind

theorem castmul (a b : Nat) : ((a * b : Nat) : Rat) = (a : Rat) * (b : Rat) := Rat.natCast_mul a b
theorem castadd (a b : Nat) : ((a + b : Nat) : Rat) = (a : Rat) + (b : Rat) := Rat.natCast_add a b

theorem nearest_rv (neg : Bool) (mag : Nat) (place : Int) (A : Rat) (h1 : -A ≤ rvD (.number neg mag place)) (h2 : rvD (.number neg mag place) ≤ A) (hA : A < (2 : Rat) ^ (1023 : Int)) :
    isNum (double.nearest neg mag place) = true ∧ -(uu * A + eta) ≤ rv (double.nearest neg mag place) - rvD (.number neg mag place) ∧ rv (double.nearest neg mag place) - rvD (.number neg mag place) ≤ uu * A + eta := by
  have heta : 0 < eta := p2_pos _
  by_cases hm : mag = 0
  · subst hm
    have hr : double.read (double.nearest neg 0 place) = .number neg 0 (-1074) := by
      unfold Format.nearest
      rw [if_pos rfl]
      cases neg <;> rfl
    have hv : ∀ p, rvD (.number neg 0 p) = 0 := by
      intro p
      cases neg <;> simp [rvD]
    refine ⟨isNum_of hr, ?_⟩
    unfold rv
    rw [hr, hv, hv]
    rw [hv] at h1 h2
    unfold uu
    constructor <;> grind
  · have hmA : (mag : Rat) * (2 : Rat) ^ place ≤ A := by
      cases neg <;> simp only [rvD] at h1 h2 <;> simp at h1 h2 <;> grind
    have hL : (2 : Rat) ^ (place + (mag.log2 : Int)) ≤ A := by
      refine Rat.le_trans ?_ hmA
      rw [p2_add, p2_nat, Rat.mul_comm]
      refine Rat.mul_le_mul_of_nonneg_right ?_ (Rat.le_of_lt (p2_pos _))
      exact Rat.natCast_le_natCast.2 (Nat.log2_self_le hm)
    have hp : place + (mag.log2 : Int) < 1023 := p2_le_iff _ _ (by grind)
    obtain ⟨m, e, kept, a, up, drop, hr, hme, hud, c1, c2, c3, _⟩ := nearest_spec neg mag place hm (by omega)
    have hP := p2_pos (place - up)
    have q1 : (2 : Rat) ^ place = ((2 ^ up : Nat) : Rat) * (2 : Rat) ^ (place - (up : Int)) := by
      have : place = (up : Int) + (place - up) := by omega
      rw [this, p2_add, p2_nat]
      congr 2
      omega
    have q2 : (2 : Rat) ^ (-1074 + (a : Int)) = (2 : Rat) ^ (place - (up : Int)) * ((2 ^ drop : Nat) : Rat) := by
      rw [← hud, p2_add, p2_nat]
    have q3 : (m : Rat) * (2 : Rat) ^ (-1074 + (e : Int)) = (kept : Rat) * (2 : Rat) ^ (-1074 + (a : Int)) := by
      have := congrArg (Nat.cast : Nat → Rat) hme
      rw [castmul, castmul] at this
      rw [p2_add, p2_add, p2_nat, p2_nat]
      grind
    have b1 : 2 * ((kept : Rat) * ((2 ^ drop : Nat) : Rat)) ≤ 2 * ((mag : Rat) * ((2 ^ up : Nat) : Rat)) + ((2 ^ drop : Nat) : Rat) := by
      have := Rat.natCast_le_natCast.2 c1
      rw [castadd, castmul, castmul, castmul, castmul] at this
      exact this
    have b2 : 2 * ((mag : Rat) * ((2 ^ up : Nat) : Rat)) ≤ 2 * ((kept : Rat) * ((2 ^ drop : Nat) : Rat)) + ((2 ^ drop : Nat) : Rat) := by
      have := Rat.natCast_le_natCast.2 c2
      rw [castadd, castmul, castmul, castmul, castmul] at this
      exact this
    have b3 : (2 : Rat) ^ (place - (up : Int)) * ((2 ^ drop : Nat) : Rat) ≤ 2 * (uu * A + eta) := by
      rw [← q2]
      rcases c3 with c3 | c3
      · subst c3
        have : (2 : Rat) ^ (-1074 + ((0 : Nat) : Int)) = 2 * eta := by
          unfold eta
          have : (-1074 + ((0 : Nat) : Int)) = 1 + (-1075) := by omega
          rw [this, p2_add]; rfl
        have hA0 : 0 ≤ A := Rat.le_trans (Rat.le_of_lt (p2_pos _)) hL
        unfold uu
        grind
      · have e1 : (-1074 + (a : Int)) = (place + (mag.log2 : Int)) + (-52) := by omega
        rw [e1, p2_add]
        have e2 : (2 : Rat) ^ (-52 : Int) = 2 * uu := by decide +kernel
        rw [e2]
        have hu : (0 : Rat) ≤ 2 * uu := by unfold uu; decide +kernel
        have := Rat.mul_le_mul_of_nonneg_right hL hu
        grind
    generalize ((2 ^ drop : Nat) : Rat) = D at *
    generalize ((2 ^ up : Nat) : Rat) = U at *
    generalize (2 : Rat) ^ (place - (up : Int)) = P at *
    have d1 := Rat.mul_le_mul_of_nonneg_right b1 (Rat.le_of_lt hP)
    have d2 := Rat.mul_le_mul_of_nonneg_right b2 (Rat.le_of_lt hP)
    have ev : (mag : Rat) * (2 : Rat) ^ place = (mag : Rat) * U * P := by rw [q1]; grind
    have er : (m : Rat) * (2 : Rat) ^ (-1074 + (e : Int)) = (kept : Rat) * D * P := by rw [q3, q2]; grind
    refine ⟨isNum_of hr, ?_⟩
    unfold rv
    rw [hr]
    cases neg
    · simp only [rvD, if_neg, Bool.false_eq_true, not_false_eq_true]
      rw [ev, er]
      constructor <;> grind
    · simp only [rvD, if_true]
      rw [Rat.neg_mul, Rat.neg_mul, ev, er]
      constructor <;> grind

/-! ### the operations -/
theorem mul_rv {x y : Nat} (hx : isNum x = true) (hy : isNum y = true) (A : Rat) (h1 : -A ≤ rv x * rv y) (h2 : rv x * rv y ≤ A) (hA : A < (2 : Rat) ^ (1023 : Int)) :
    isNum (fmul x y) = true ∧ -(uu * A + eta) ≤ rv (fmul x y) - rv x * rv y ∧ rv (fmul x y) - rv x * rv y ≤ uu * A + eta := by
  obtain ⟨s, m, p, e⟩ := num_of hx
  obtain ⟨t, n, q, f⟩ := num_of hy
  have hf : fmul x y = double.nearest (s ^^ t) (m * n) (p + q) := by
    simp [fmul, Format.mul, e, f, Datum.product, Format.write]
  have hv : rv x * rv y = rvD (.number (s ^^ t) (m * n) (p + q)) := by
    unfold rv
    rw [e, f]
    simp only [rvD]
    rw [p2_add, castmul]
    cases s <;> cases t <;> simp <;> grind
  rw [hf, hv]
  rw [hv] at h1 h2
  exact nearest_rv _ _ _ A h1 h2 hA

theorem signed_rv (s : Bool) (m : Nat) (i base : Int) (h : base ≤ i) : ((signed s m (i - base).toNat : Int) : Rat) * (2 : Rat) ^ base = rvD (.number s m i) := by
  obtain ⟨k, hk⟩ : ∃ k : Nat, i = base + (k : Int) := ⟨(i - base).toNat, by omega⟩
  subst hk
  have : (base + (k : Int) - base).toNat = k := by omega
  rw [this]
  unfold signed
  rw [Nat.shiftLeft_eq]
  simp only [rvD]
  rw [p2_add, p2_nat]
  have hc : (((m * 2 ^ k : Nat) : Int) : Rat) = (m : Rat) * ((2 ^ k : Nat) : Rat) := by
    rw [Rat.intCast_natCast, castmul]
  cases s
  · simp only [if_neg, Bool.false_eq_true, not_false_eq_true]
    rw [hc]; grind
  · simp only [if_true]
    rw [Rat.intCast_neg, hc]; grind

theorem natAbs_rv (b : Bool) (t : Int) (i : Int) (h : t = 0 ∨ b = decide (t < 0)) : rvD (.number b t.natAbs i) = (t : Rat) * (2 : Rat) ^ i := by
  rcases h with h | h
  · subst h; cases b <;> simp [rvD]
  · subst h
    simp only [rvD]
    by_cases hs : t < 0
    · have : (t.natAbs : Int) = -t := by omega
      have e : ((t.natAbs : Nat) : Rat) = -(t : Rat) := by rw [← Rat.intCast_natCast, this, Rat.intCast_neg]
      rw [e]; simp [hs]
    · have : (t.natAbs : Int) = t := by omega
      have e : ((t.natAbs : Nat) : Rat) = (t : Rat) := by rw [← Rat.intCast_natCast, this]
      rw [e]; simp [hs]

theorem sum_rv (s t : Bool) (m n : Nat) (i j : Int) : ∃ b k base, Datum.sum (.number s m i) (.number t n j) = some (.number b k base) ∧ rvD (.number b k base) = rvD (.number s m i) + rvD (.number t n j) := by
  refine ⟨_, _, _, rfl, ?_⟩
  rw [natAbs_rv]
  · rw [Rat.intCast_add, Rat.add_mul, signed_rv _ _ _ _ (Int.min_le_left _ _), signed_rv _ _ _ _ (Int.min_le_right _ _)]
  · split
    · left; assumption
    · right; rfl

theorem add_rv {x y : Nat} (hx : isNum x = true) (hy : isNum y = true) (A : Rat) (h1 : -A ≤ rv x + rv y) (h2 : rv x + rv y ≤ A) (hA : A < (2 : Rat) ^ (1023 : Int)) :
    isNum (fadd x y) = true ∧ -(uu * A + eta) ≤ rv (fadd x y) - (rv x + rv y) ∧ rv (fadd x y) - (rv x + rv y) ≤ uu * A + eta := by
  obtain ⟨s, m, p, e⟩ := num_of hx
  obtain ⟨t, n, q, f⟩ := num_of hy
  obtain ⟨b, k, base, hs, hv⟩ := sum_rv s t m n p q
  have hf : fadd x y = double.nearest b k base := by
    simp [fadd, Format.add, e, f, hs, Format.write]
  have hv' : rv x + rv y = rvD (.number b k base) := by unfold rv; rw [e, f, hv]
  rw [hf, hv']
  rw [hv'] at h1 h2
  exact nearest_rv _ _ _ A h1 h2 hA

theorem sub_rv {x y : Nat} (hx : isNum x = true) (hy : isNum y = true) (A : Rat) (h1 : -A ≤ rv x - rv y) (h2 : rv x - rv y ≤ A) (hA : A < (2 : Rat) ^ (1023 : Int)) :
    isNum (fsub x y) = true ∧ -(uu * A + eta) ≤ rv (fsub x y) - (rv x - rv y) ∧ rv (fsub x y) - (rv x - rv y) ≤ uu * A + eta := by
  obtain ⟨s, m, p, e⟩ := num_of hx
  obtain ⟨t, n, q, f⟩ := num_of hy
  obtain ⟨b, k, base, hs, hv⟩ := sum_rv s (!t) m n p q
  have hf : fsub x y = double.nearest b k base := by
    simp [fsub, Format.sub, e, f, Datum.opposite, hs, Format.write]
  have hv' : rv x - rv y = rvD (.number b k base) := by
    unfold rv; rw [e, f, hv]
    cases t <;> simp [rvD] <;> grind
  rw [hf, hv']
  rw [hv'] at h1 h2
  exact nearest_rv _ _ _ A h1 h2 hA

/-- Comparisons go by the exact values. -/
theorem order_rv {x y : Nat} (hx : isNum x = true) (hy : isNum y = true) :
    double.order x y = some (if rv x < rv y then .lt else if rv x = rv y then .eq else .gt) := by
  obtain ⟨s, m, p, e⟩ := num_of hx
  obtain ⟨t, n, q, f⟩ := num_of hy
  unfold Format.order rv
  rw [e, f]
  simp only [Datum.order]
  rw [← signed_rv s m p (min p q) (Int.min_le_left _ _), ← signed_rv t n q (min p q) (Int.min_le_right _ _)]
  generalize signed s m (p - min p q).toNat = a
  generalize signed t n (q - min p q).toNat = b
  have hP := p2_pos (min p q)
  generalize (2 : Rat) ^ (min p q) = P at *
  congr 1
  have l1 : (a : Rat) * P < (b : Rat) * P ↔ a < b := by
    rw [Rat.mul_lt_mul_right hP]; exact Rat.intCast_lt_intCast
  have l2 : (a : Rat) * P = (b : Rat) * P ↔ a = b := by
    constructor
    · intro h
      have n1 : ¬ a < b := fun g => by have := l1.2 g; rw [h] at this; exact Rat.lt_irrefl this
      have n2 : ¬ b < a := fun g => by
        have : (b : Rat) * P < (a : Rat) * P := by rw [Rat.mul_lt_mul_right hP]; exact Rat.intCast_lt_intCast.2 g
        rw [h] at this; exact Rat.lt_irrefl this
      omega
    · intro h; rw [h]
  simp only [l1, l2, compare, compareOfLessAndEq]

/-! ### the sign turned -/
theorem neg_parts (x : Nat) : fneg x % 9223372036854775808 = x % 9223372036854775808 ∧ (fneg x / 9223372036854775808 % 2 == 1) = !(x / 9223372036854775808 % 2 == 1) := by
  have e : fneg x = x ^^^ 2 ^ 63 := rfl
  have p : (9223372036854775808 : Nat) = 2 ^ 63 := rfl
  rw [e, p]
  constructor
  · rw [Nat.xor_mod_two_pow]; simp
  · rw [Nat.xor_div_two_pow, Nat.div_self (Nat.two_pow_pos 63)]
    generalize x / 2 ^ 63 = y
    have h : (y ^^^ 1) % 2 = (y % 2) ^^^ (1 % 2) := Nat.xor_mod_two_pow (n := 1)
    rw [h]
    rcases Nat.mod_two_eq_zero_or_one y with h2 | h2 <;> rw [h2] <;> rfl

theorem read_neg {x : Nat} {s : Bool} {m : Nat} {p : Int} (h : double.read x = .number s m p) : double.read (fneg x) = .number (!s) m p := by
  have hs : double.signWeight = 9223372036854775808 := rfl
  unfold Format.read at h ⊢
  rw [hs] at h ⊢
  simp only [(neg_parts x).1, (neg_parts x).2]
  simp only at h
  split at h
  · rename_i c; rw [if_pos c]; simp only [Datum.number.injEq] at h ⊢; exact ⟨by rw [h.1], h.2.1, h.2.2⟩
  · rename_i c
    rw [if_neg c]
    split at h
    · rename_i d; rw [if_pos d]; simp only [Datum.number.injEq] at h ⊢; exact ⟨by rw [h.1], h.2.1, h.2.2⟩
    · split at h <;> cases h

theorem neg_rv {x : Nat} (hx : isNum x = true) : isNum (fneg x) = true ∧ rv (fneg x) = - rv x := by
  obtain ⟨s, m, p, e⟩ := num_of hx
  have f := read_neg e
  refine ⟨isNum_of f, ?_⟩
  unfold rv
  rw [e, f]
  cases s <;> simp [rvD] <;> grind

theorem order_self {x : Nat} (hx : isNum x = true) : double.order x x = some .eq := by
  rw [order_rv hx hx, if_neg Rat.lt_irrefl, if_pos rfl]
end Go.Proofs.YtmkdcnemocdefaaGreatFmt.Fl
