/- Doubles' words held against each other: plain. -/
import Derived.Test.YtmkdcnemocdefaaGreatFmtVecP
namespace Go.Proofs.YtmkdcnemocdefaaGreatFmt
open Ieee

theorem read_fin {b : Nat} (h : fieldW b < 2047) : double.read b = .number (sgnW b) (mantW b) (-1074 + (placeW b : Int)) := by
  rw [read_parts]
  unfold mantW placeW
  by_cases c : fieldW b = 0
  · rw [if_pos c, if_pos c, c]; rfl
  · rw [if_neg c, if_neg c, if_pos h]
theorem read_inf {b : Nat} (h : fieldW b = 2047) (hf : fracW b = 0) : double.read b = .infinity (sgnW b) := by
  rw [read_parts, if_neg (by omega), if_neg (by omega), if_pos hf]
theorem read_nan {b : Nat} (h : fieldW b = 2047) (hf : fracW b ≠ 0) : double.read b = .nan (sgnW b) (fracW b) := by
  rw [read_parts, if_neg (by omega), if_neg (by omega), if_neg hf]
theorem field_le (b : Nat) : fieldW b ≤ 2047 := Nat.le_of_lt_succ (Nat.mod_lt _ (by decide))
theorem signed_num (s : Bool) (m e : Nat) : signed s m e = if s then -((m * 2 ^ e : Nat) : Int) else ((m * 2 ^ e : Nat) : Int) := by
  unfold signed
  rw [Nat.shiftLeft_eq]
theorem signed_up (s : Bool) (m e d : Nat) : signed s m (e + d) = signed s m e * ((2 ^ d : Nat) : Int) := by
  rw [signed_num, signed_num, Nat.pow_add, ← Nat.mul_assoc]
  generalize m * 2 ^ e = v
  cases s
  · rw [if_neg Bool.false_ne_true, if_neg Bool.false_ne_true, Int.natCast_mul]
  · rw [if_pos rfl, if_pos rfl, Int.natCast_mul, Int.neg_mul]
theorem numW_signed (b : Nat) : numW b = signed (sgnW b) (mantW b) (placeW b) := by
  rw [signed_num]; rfl
theorem compare_scale (a b : Int) (P : Int) (hP : 0 < P) : compare (a * P) (b * P) = compare a b := by
  have l : a * P < b * P ↔ a < b := Int.mul_lt_mul_right hP
  have e : a * P = b * P ↔ a = b := by
    constructor
    · exact fun h => Int.eq_of_mul_eq_mul_right (by omega) h
    · exact fun h => by rw [h]
  simp only [compare, compareOfLessAndEq, l, e]
theorem order_fin {b c : Nat} (hb : fieldW b < 2047) (hc : fieldW c < 2047) : double.order b c = some (compare (numW b) (numW c)) := by
  unfold Format.order
  rw [read_fin hb, read_fin hc]
  simp only [Datum.order]
  generalize hm : min (-1074 + (placeW b : Int)) (-1074 + (placeW c : Int)) = base
  obtain ⟨t, ht⟩ : ∃ t : Nat, base = -1074 + (t : Int) := ⟨min (placeW b) (placeW c), by omega⟩
  have h1 : (-1074 + (placeW b : Int) - base).toNat = placeW b - t := by omega
  have h2 : (-1074 + (placeW c : Int) - base).toNat = placeW c - t := by omega
  rw [h1, h2, numW_signed, numW_signed]
  have e1 : signed (sgnW b) (mantW b) (placeW b) = signed (sgnW b) (mantW b) (placeW b - t) * ((2 ^ t : Nat) : Int) := by
    rw [← signed_up, show placeW b - t + t = placeW b by omega]
  have e2 : signed (sgnW c) (mantW c) (placeW c) = signed (sgnW c) (mantW c) (placeW c - t) * ((2 ^ t : Nat) : Int) := by
    rw [← signed_up, show placeW c - t + t = placeW c by omega]
  rw [e1, e2, compare_scale _ _ _ (by have := Nat.two_pow_pos t; omega)]
theorem cmp_gt (a b : Int) : (compare a b == .gt) = decide (b < a) := by
  simp only [compare, compareOfLessAndEq]
  by_cases h : a < b
  · rw [if_pos h, decide_eq_false (by omega)]; rfl
  · rw [if_neg h]
    by_cases e : a = b
    · rw [if_pos e, decide_eq_false (by omega)]; rfl
    · rw [if_neg e, decide_eq_true (by omega)]; rfl
theorem cmp_lt' (a b : Int) : (compare a b == .lt) = decide (a < b) := by
  simp only [compare, compareOfLessAndEq]
  by_cases h : a < b
  · rw [if_pos h, decide_eq_true h]; rfl
  · rw [if_neg h, decide_eq_false h]
    by_cases e : a = b
    · rw [if_pos e]; rfl
    · rw [if_neg e]; rfl
theorem cmp_eq' (a b : Int) : (compare a b == .eq) = decide (a = b) := by
  simp only [compare, compareOfLessAndEq]
  by_cases h : a < b
  · rw [if_pos h, decide_eq_false (by omega)]; rfl
  · rw [if_neg h]
    by_cases e : a = b
    · rw [if_pos e, decide_eq_true e]; rfl
    · rw [if_neg e, decide_eq_false e]; rfl
/-- The tests, as the walk meets them. -/
theorem f_gt {b c : Nat} (hb : fieldW b < 2047) (hc : fieldW c < 2047) : (FloatKind.f64.format.order b c == some .gt) = decide (numW c < numW b) := by
  have h : FloatKind.f64.format.order b c = _ := order_fin hb hc
  rw [h, ← cmp_gt]; rfl
theorem f_lt {b c : Nat} (hb : fieldW b < 2047) (hc : fieldW c < 2047) : (FloatKind.f64.format.order b c == some .lt) = decide (numW b < numW c) := by
  have h : FloatKind.f64.format.order b c = _ := order_fin hb hc
  rw [h, ← cmp_lt']; rfl
theorem f_eq {b c : Nat} (hb : fieldW b < 2047) (hc : fieldW c < 2047) : (FloatKind.f64.format.order b c == some .eq) = decide (numW b = numW c) := by
  have h : FloatKind.f64.format.order b c = _ := order_fin hb hc
  rw [h, ← cmp_eq']; rfl
theorem f_self {b : Nat} (hb : fieldW b < 2047 ∨ fracW b = 0) : FloatKind.f64.format.order b b = some .eq := by
  rcases Nat.lt_or_ge (fieldW b) 2047 with h | h
  · have q : FloatKind.f64.format.order b b = _ := order_fin h h
    rw [q]
    simp [compare, compareOfLessAndEq]
  · have hf := field_le b
    have r := read_inf (b := b) (by omega) (by omega)
    show Datum.order (double.read b) (double.read b) = _
    rw [r]
    cases sgnW b <;> rfl
theorem f_nan {b c : Nat} (h : fieldW b = 2047) (hf : fracW b ≠ 0) : FloatKind.f64.format.order b c = none := by
  show Datum.order (double.read b) (double.read c) = _
  rw [read_nan h hf]
  cases double.read c <;> rfl
/-- The least and the greatest. -/
theorem numW_zero : numW 0 = 0 := by decide +kernel
theorem field_max : fieldW 9218868437227405311 = 2046 := by decide +kernel
theorem units_max {b : Nat} (hb : fieldW b < 2047) : unitsW b ≤ unitsW 9218868437227405311 := by
  have m := mantW_lt b
  have p : placeW b ≤ 2045 := by unfold placeW; omega
  have m2 : mantW 9218868437227405311 = 9007199254740991 := by decide +kernel
  have p2 : placeW 9218868437227405311 = 2045 := by decide +kernel
  have p3 : placeW b ≤ placeW 9218868437227405311 := by rw [p2]; exact p
  have m3 : mantW b ≤ mantW 9218868437227405311 := by rw [m2]; omega
  clear p2 m2 p m
  generalize h : (9218868437227405311 : Nat) = M at *
  unfold unitsW
  exact Nat.mul_le_mul m3 (Nat.pow_le_pow_right (by decide) p3)
theorem num_max {b : Nat} (hb : fieldW b < 2047) : ¬ (numW 9218868437227405311 < numW b) := by
  have u := units_max hb
  have s : sgnW 9218868437227405311 = false := by decide +kernel
  unfold numW
  rw [s, if_neg Bool.false_ne_true]
  split <;> omega
theorem numW_eq_zero (b : Nat) : numW b = 0 ↔ unitsW b = 0 := by
  unfold numW
  split <;> omega
/-- The sign turned. -/
def negW (b : Nat) : Nat := if sgnW b then b - 9223372036854775808 else b + 9223372036854775808
theorem negW_parts {b : Nat} (h : b < 18446744073709551616) : negW b < 18446744073709551616 ∧ fieldW (negW b) = fieldW b ∧ fracW (negW b) = fracW b ∧ sgnW (negW b) = !sgnW b := by
  have p := word_parts b h
  have f1 : fracW b < 4503599627370496 := Nat.mod_lt _ (by decide)
  have f2 := field_le b
  unfold negW
  by_cases c : sgnW b = true
  · rw [c, if_pos rfl] at p
    rw [if_pos c]
    have e : b - 9223372036854775808 = fieldW b * 4503599627370496 + fracW b := by omega
    have h1 : b - 9223372036854775808 < 9223372036854775808 := by omega
    refine ⟨by omega, ?_, ?_, ?_⟩
    · show (b - 9223372036854775808) / 4503599627370496 % 2048 = fieldW b; omega
    · show (b - 9223372036854775808) % 4503599627370496 = fracW b; omega
    · rw [c]
      unfold sgnW
      rw [Nat.div_eq_of_lt h1]; rfl
  · have c' : sgnW b = false := by simpa using c
    rw [c', if_neg Bool.false_ne_true, Nat.zero_add] at p
    rw [if_neg c]
    refine ⟨by omega, ?_, ?_, ?_⟩
    · show (b + 9223372036854775808) / 4503599627370496 % 2048 = fieldW b; omega
    · show (b + 9223372036854775808) % 4503599627370496 = fracW b; omega
    · rw [c']
      unfold sgnW
      have : (b + 9223372036854775808) / 9223372036854775808 = 1 := by omega
      rw [this]; rfl
theorem numW_neg {b : Nat} (h : b < 18446744073709551616) : numW (negW b) = - numW b := by
  have ⟨_, h1, h2, h3⟩ := negW_parts h
  have u : unitsW (negW b) = unitsW b := by unfold unitsW mantW placeW; rw [h1, h2]
  unfold numW
  rw [u, h3]
  cases sgnW b <;> simp
end Go.Proofs.YtmkdcnemocdefaaGreatFmt
