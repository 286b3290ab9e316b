/- Frexp. -/
import Derived.Test.YtmkdcnemocdefaaGreatFmtFrx
namespace Go.Proofs.YtmkdcnemocdefaaGreatFmt
open Go.RowKit Ieee

theorem and_parts (x a k : Nat) : x &&& (2 ^ k * a + (2 ^ k - 1)) = 2 ^ k * ((x / 2 ^ k) &&& a) + x % 2 ^ k := by
  have p : 0 < (2 : Nat) ^ k := Nat.two_pow_pos k
  apply Nat.eq_of_testBit_eq
  intro i
  rw [Nat.testBit_and, Nat.testBit_two_pow_mul_add _ (by omega), Nat.testBit_two_pow_mul_add _ (Nat.mod_lt _ p)]
  by_cases h : i < k
  · rw [if_pos h, if_pos h, Nat.testBit_two_pow_sub_one, Nat.testBit_mod_two_pow]
    simp [h]
  · rw [if_neg h, if_neg h, Nat.testBit_and, Nat.testBit_div_two_pow, show i - k + k = i by omega]
theorem and_shift (x a k : Nat) : x &&& (2 ^ k * a) = 2 ^ k * ((x / 2 ^ k) &&& a) := by
  apply Nat.eq_of_testBit_eq
  intro i
  have e : ∀ c, 2 ^ k * c = 2 ^ k * c + 0 := fun c => by omega
  rw [Nat.testBit_and, e a, e (x / 2 ^ k &&& a), Nat.testBit_two_pow_mul_add _ (Nat.two_pow_pos k), Nat.testBit_two_pow_mul_add _ (Nat.two_pow_pos k)]
  by_cases h : i < k
  · rw [if_pos h, if_pos h]; simp
  · rw [if_neg h, if_neg h, Nat.testBit_and, Nat.testBit_div_two_pow, show i - k + k = i by omega]
theorem or_parts (a b c k : Nat) (h : b < 2 ^ k) : (2 ^ k * a + b) ||| (2 ^ k * c) = 2 ^ k * (a ||| c) + b := by
  apply Nat.eq_of_testBit_eq
  intro i
  have e : 2 ^ k * c = 2 ^ k * c + 0 := by omega
  rw [Nat.testBit_or, Nat.testBit_two_pow_mul_add _ h, Nat.testBit_two_pow_mul_add _ h, e, Nat.testBit_two_pow_mul_add _ (Nat.two_pow_pos k)]
  by_cases g : i < k
  · rw [if_pos g, if_pos g, if_pos g]; simp
  · rw [if_neg g, if_neg g, if_neg g, Nat.testBit_or]
theorem top_bit (y : Nat) (h : y < 4096) : y &&& 2048 = y / 2048 * 2048 := by
  have u := and_shift y 1 11
  rw [show 2 ^ 11 * 1 = 2048 by decide, show (2 : Nat) ^ 11 = 2048 by decide] at u
  rw [u]
  have v := Nat.and_two_pow_sub_one_eq_mod (y / 2048) 1
  rw [show 2 ^ 1 - 1 = 1 by decide] at v
  rw [v]; omega
/-- What Frexp makes of a word. -/
def fracOf (c : Nat) : Nat := (if sgnW c then 9223372036854775808 else 0) + 4602678819172646912 + fracW c
theorem strike_field (c : Nat) (h : c < 18446744073709551616) : bits .andNot .u64 (c : Int) 9218868437227405312 = (((if sgnW c then 9223372036854775808 else 0) + fracW c : Nat) : Int) := by
  have r := u64_andNot_nat c 9218868437227405312 h (by decide)
  refine Eq.trans r ?_
  have a := and_parts c 2048 52
  rw [show 2 ^ 52 * 2048 + (2 ^ 52 - 1) = 18446744073709551615 - 9218868437227405312 by decide, top_bit (c / 2 ^ 52) (by omega)] at a
  rw [a]
  refine congrArg Nat.cast ?_
  unfold sgnW fracW
  by_cases d : c / 9223372036854775808 % 2 = 1
  · rw [if_pos (by simpa using d)]; omega
  · rw [if_neg (by simpa using d)]; omega
theorem lay_field (c : Nat) : bits .or .u64 (((if sgnW c then 9223372036854775808 else 0) + fracW c : Nat) : Int) 4602678819172646912 = (fracOf c : Int) := by
  have f1 : fracW c < 4503599627370496 := Nat.mod_lt _ (by decide)
  have key : ∀ a b : Nat, b < 2 ^ 52 → a ≤ 2048 → (2 ^ 52 * a + b) ||| (2 ^ 52 * 1022) = 2 ^ 52 * (a ||| 1022) + b := fun a b hb _ => or_parts a b 1022 52 hb
  unfold fracOf
  by_cases d : sgnW c = true
  · rw [if_pos d]
    have r := u64_or_nat (9223372036854775808 + fracW c) 4602678819172646912 (by omega) (by decide)
    refine Eq.trans r ?_
    have k := key 2048 (fracW c) f1 (by omega)
    rw [show (2048 : Nat) ||| 1022 = 3070 by decide, show 2 ^ 52 * 2048 = 9223372036854775808 by decide, show 2 ^ 52 * 1022 = 4602678819172646912 by decide] at k
    rw [k]
  · rw [if_neg d]
    have r := u64_or_nat (0 + fracW c) 4602678819172646912 (by omega) (by decide)
    refine Eq.trans r ?_
    have k := key 0 (fracW c) f1 (by omega)
    rw [show (0 : Nat) ||| 1022 = 1022 by decide, show 2 ^ 52 * 0 = 0 by decide, show 2 ^ 52 * 1022 = 4602678819172646912 by decide] at k
    rw [k]
/-- A number not nought, normalized: the word, and by how much its exponent is less. -/
def nrmW (b : Nat) : Nat := if fieldW b = 0 then liftW b else b
theorem lift_parts {b : Nat} (h1 : fracW b ≠ 0) : liftW b < 18446744073709551616 ∧ fieldW (liftW b) = Nat.log2 (fracW b) + 1 ∧ fracW (liftW b) = fracW b * 2 ^ (52 - Nat.log2 (fracW b)) - 4503599627370496 ∧ sgnW (liftW b) = sgnW b := by
  have ⟨l1, l2, l3⟩ := log2_frac b h1
  have e : liftW b = (if sgnW b then 9223372036854775808 else 0) + (Nat.log2 (fracW b) + 1) * 4503599627370496 + (fracW b * 2 ^ (52 - Nat.log2 (fracW b)) - 4503599627370496) := rfl
  generalize liftW b = c at *
  generalize fracW b * 2 ^ (52 - Nat.log2 (fracW b)) = q at *
  generalize Nat.log2 (fracW b) = L at *
  by_cases d : sgnW b = true
  · rw [if_pos d] at e
    rw [d]
    refine ⟨by omega, by unfold fieldW; omega, by unfold fracW; omega, ?_⟩
    unfold sgnW
    have : c / 9223372036854775808 = 1 := by omega
    rw [this]; rfl
  · have d' : sgnW b = false := by simpa using d
    rw [if_neg d] at e
    rw [d']
    refine ⟨by omega, by unfold fieldW; omega, by unfold fracW; omega, ?_⟩
    unfold sgnW
    have : c / 9223372036854775808 = 0 := by omega
    rw [this]; rfl
theorem small_units (b : Nat) : (unitsW b < 4503599627370496 ↔ fieldW b = 0) := by
  unfold unitsW mantW placeW
  have f1 : fracW b < 4503599627370496 := Nat.mod_lt _ (by decide)
  by_cases c : fieldW b = 0
  · rw [if_pos c, c, show 0 - 1 = 0 by rfl, Nat.pow_zero, Nat.mul_one]
    omega
  · rw [if_neg c]
    have p : 0 < (2 : Nat) ^ (fieldW b - 1) := Nat.two_pow_pos _
    have q := Nat.le_mul_of_pos_right (fracW b + 4503599627370496) p
    omega
theorem num_min : numW 4503599627370496 = 4503599627370496 := by decide +kernel
theorem abs_small (b : Nat) (hf : fieldW b < 2047) : (FloatKind.f64.format.order (absW b) 4503599627370496 == some .lt) = decide (fieldW b = 0) := by
  have hp := absW_parts b
  rw [f_lt (by rw [hp.1]; exact hf) (by decide +kernel), num_min]
  have u : numW (absW b) = (unitsW b : Int) := by
    unfold numW
    rw [hp.2.2, if_neg Bool.false_ne_true]
    unfold unitsW mantW placeW
    rw [hp.1, hp.2.1]
  rw [u]
  have s := small_units b
  by_cases c : fieldW b = 0
  · rw [decide_eq_true c, decide_eq_true (by have := s.2 c; omega)]
  · rw [decide_eq_false c, decide_eq_false (by
      intro h
      exact c (s.1 (by omega)))]
theorem normalize_any (b : Nat) (h : b < 18446744073709551616) (hf : fieldW b < 2047) (h0 : unitsW b ≠ 0) (w : World) :
    Calls Tryz.prog 70 #[.float .f64 b] w fun e w' => e = .returned (.tuple #[.float .f64 (nrmW b), .int .i64 (if fieldW b = 0 then -52 else 0)]) ∧ w' = w := by
  have HA := Lib.hid (fun W => abs_any b h W)
  have hs := abs_small b hf
  unfold nrmW
  by_cases c : fieldW b = 0
  · have hz : fracW b ≠ 0 := fun e => h0 ((unitsW_zero b).2 ⟨c, e⟩)
    have hm := mul_lift b c hz
    have hr := fun W => run_float_arith (P := Tryz.prog) W .mul 23 .f64 b 4841369599423283200 _ hm
    rw [decide_eq_true c] at hs
    rw [if_pos c, if_pos c]
    clear hm c hz h0
    go_enter Tryz.func70, Tryz.ntmps70
    go_wp2_with fail
    refine (HA.out _).mono ?_; rintro e w1 ⟨rfl, rfl⟩
    go_wp2
    go_ret2
    exact ⟨rfl, rfl⟩
  · rw [decide_eq_false c] at hs
    rw [if_neg c, if_neg c]
    go_enter Tryz.func70, Tryz.ntmps70
    go_wp2_with fail
    refine (HA.out _).mono ?_; rintro e w1 ⟨rfl, rfl⟩
    go_wp2
    go_ret2
    exact ⟨rfl, rfl⟩
/-- The word and the exponent. -/
theorem nrm_parts {b : Nat} (h : b < 18446744073709551616) (hf : fieldW b < 2047) (h0 : unitsW b ≠ 0) :
    nrmW b < 18446744073709551616 ∧ fieldW (nrmW b) ≤ 2046 ∧ (if fieldW b = 0 then (-52 : Int) else 0) + ((fieldW (nrmW b) : Int) - 1023 + 1) = (exW b : Int) - 1074 ∧ 9223372036854775808 + fracW (nrmW b) * 2048 = normW b ∧ sgnW (nrmW b) = sgnW b := by
  unfold nrmW exW normW
  by_cases c : fieldW b = 0
  · have hz : fracW b ≠ 0 := fun e => h0 ((unitsW_zero b).2 ⟨c, e⟩)
    have ⟨q1, q2, q3, q4⟩ := lift_parts hz
    have ⟨l1, l2, l3⟩ := log2_frac b hz
    rw [if_pos c, if_pos c, if_pos c, if_pos c]
    refine ⟨q1, by omega, by omega, ?_, q4⟩
    rw [q3, show 63 - Nat.log2 (fracW b) = 52 - Nat.log2 (fracW b) + 11 by omega, Nat.pow_add, ← Nat.mul_assoc]
    omega
  · rw [if_neg c, if_neg c, if_neg c, if_neg c]
    exact ⟨h, by omega, by omega, rfl, rfl⟩
theorem and_field (c : Nat) (h : c < 18446744073709551616) : bits .and .u64 ((c / 4503599627370496 : Nat) : Int) 2047 = (fieldW c : Int) := by
  have r := u64_and_nat (c / 4503599627370496) 2047 (by omega) (by decide)
  refine Eq.trans r ?_
  have m := Nat.and_two_pow_sub_one_eq_mod (c / 4503599627370496) 11
  rw [show 2 ^ 11 - 1 = 2047 by decide] at m
  rw [m]
  rfl
set_option maxRecDepth 20000 in
theorem frexp_any (b : Nat) (h : b < 18446744073709551616) (hf : fieldW b < 2047) (h0 : unitsW b ≠ 0) (w : World) :
    Calls Tryz.prog 56 #[.float .f64 b] w fun e w' => e = .returned (.tuple #[.float .f64 (fracOf (nrmW b)), .int .i64 ((exW b : Int) - 1074)]) ∧ w' = w := by
  have HN := Lib.hid (fun W => normalize_any b h hf h0 W)
  have HI := Lib.hid (fun W => isInf_0 b h hf W)
  have HA := Lib.hid (fun W => isNaN_fin b (Or.inl hf) W)
  have hz := f_eq (b := b) (c := 0) hf (by decide +kernel)
  rw [numW_zero, decide_eq_false (by rw [numW_eq_zero]; exact h0)] at hz
  have ⟨p1, p2, p3, p4, p5⟩ := nrm_parts h hf h0
  have hx := exW_lt b hf h0
  have hA : bits .and .u64 ((nrmW b : Int) / 4503599627370496) 2047 = (fieldW (nrmW b) : Int) := and_field (nrmW b) p1
  have hS := strike_field (nrmW b) p1
  have hL := lay_field (nrmW b)
  have h1 := @run_callFunc_extern Tryz.prog 17 _ Extern.MathFloatBits.float64bits Tryz.func17 (by kernel_rfl) (by kernel_rfl) (by kernel_rfl) (by kernel_rfl)
  have h2 := @run_callFunc_extern Tryz.prog 22 _ Extern.MathFloatBits.float64frombits Tryz.func22 (by kernel_rfl) (by kernel_rfl) (by kernel_rfl) (by kernel_rfl)
  have hD2 : (if fieldW b = 0 then (-52 : Int) else 0) = -52 ∨ (if fieldW b = 0 then (-52 : Int) else 0) = 0 := by split <;> simp
  have hX2 : -1074 ≤ (exW b : Int) - 1074 ∧ (exW b : Int) - 1074 ≤ 1024 := by omega
  clear p4 p5 h0 hx
  generalize (if fieldW b = 0 then (-52 : Int) else 0) = D at *
  generalize nrmW b = C at *
  generalize fieldW C = F at *
  generalize (exW b : Int) - 1074 = X at *
  generalize fracOf C = Q at *
  generalize (if sgnW C then 9223372036854775808 else 0) + fracW C = V at *
  go_enter Tryz.func56, Tryz.ntmps56
  go_wp2_with fail
  refine (HI.out _).mono ?_; rintro e w1 ⟨rfl, rfl⟩
  go_wp2_with fail
  refine (HA.out _).mono ?_; rintro e w1 ⟨rfl, rfl⟩
  go_wp2_with fail
  refine (HN.out _).mono ?_; rintro e w1 ⟨rfl, rfl⟩
  go_wp2
  go_ret2
  exact ⟨rfl, rfl⟩
end Go.Proofs.YtmkdcnemocdefaaGreatFmt
