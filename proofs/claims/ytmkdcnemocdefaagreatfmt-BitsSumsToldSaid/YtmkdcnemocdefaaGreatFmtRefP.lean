/- The reference's rounding of a levelled sum: plain. -/
import Derived.Test.YtmkdcnemocdefaaGreatFmtTab
namespace Go.Proofs.YtmkdcnemocdefaaGreatFmt

/-- Whether anything stands below a place, as a number. -/
def restN (V k : Nat) : Nat := if V % 2 ^ k = 0 then 0 else 1
theorem restN_zero (V : Nat) : restN V 0 = 0 := by unfold restN; rw [Nat.pow_zero, Nat.mod_one, if_pos rfl]
theorem restN_le (V k : Nat) : restN V k ≤ 1 := by unfold restN; split <;> omega
theorem restN_step (V k : Nat) : restN V (k + 1) = if restN V k = 1 ∨ V / 2 ^ k % 2 = 1 then 1 else 0 := by
  have p : 0 < (2 : Nat) ^ k := Nat.two_pow_pos k
  have m : V / 2 ^ k % 2 = 0 ∨ V / 2 ^ k % 2 = 1 := by omega
  unfold restN
  rw [rest_step]
  rcases m with m | m
  · rw [m, Nat.zero_mul, Nat.add_zero]
    by_cases c : V % 2 ^ k = 0
    · rw [if_pos c, if_neg (by omega)]
    · rw [if_neg c, if_pos (Or.inl rfl)]
  · rw [m, Nat.one_mul, if_neg (by omega), if_pos (Or.inr rfl)]
/-- The mantissa that the reference comes to. -/
def refMant (V low : Nat) : Nat := if low = 0 then V else if V / 2 ^ (low - 1) % 2 = 1 ∧ (restN V (low - 1) = 1 ∨ V / 2 ^ low % 2 = 1) then V / 2 ^ low + 1 else V / 2 ^ low
theorem refMant_eq (V low : Nat) : refMant V low = nearest (V / 2 ^ low) (V % 2 ^ low) (2 ^ low) := by
  unfold refMant
  by_cases c : low = 0
  · rw [if_pos c, c, Nat.pow_zero, Nat.div_one, Nat.mod_one, near_none]
  · obtain ⟨k, rfl⟩ : ∃ k, low = k + 1 := ⟨low - 1, by omega⟩
    rw [if_neg c, near_bits _ _ k (Nat.mod_lt _ (Nat.two_pow_pos _))]
    have e1 : V % 2 ^ (k + 1) / 2 ^ k = V / 2 ^ k % 2 := by
      rw [Nat.pow_succ, Nat.mod_mul_right_div_self]
    have e2 : V % 2 ^ (k + 1) % 2 ^ k = V % 2 ^ k := Nat.mod_mod_of_dvd _ (Nat.pow_dvd_pow 2 (Nat.le_succ k))
    rw [e1, e2, show k + 1 - 1 = k by omega]
    have e3 : restN V k = 1 ↔ V % 2 ^ k ≠ 0 := by
      unfold restN
      by_cases d : V % 2 ^ k = 0
      · rw [if_pos d]; simp [d]
      · rw [if_neg d]; simp [d]
    simp only [e3]
/-- The word. -/
theorem ref_word (V top low : Nat) (h1 : 2 ^ top ≤ V) (h2 : V < 2 ^ (top + 1)) (hl : low = top - 52) :
    rndW V = if 9218868437227405312 ≤ refMant V low + low * 4503599627370496 then 9218868437227405312 else refMant V low + low * 4503599627370496 := by
  have l := log2_of (S := V) (E := top + 1) (by rw [Nat.pow_succ]; omega) h2
  have e : lowOf V = low := by unfold lowOf; omega
  unfold rndW
  rw [e, refMant_eq]
theorem rndW_zero : rndW 0 = 0 := by decide +kernel
theorem rndW_le (S : Nat) : rndW S ≤ 9218868437227405312 := by
  unfold rndW
  simp only
  split <;> omega
theorem rndW_pos (S : Nat) (h : 0 < S) : 0 < rndW S := by
  have a := Nat.log2_self_le (n := S) (by omega)
  have b : S < 2 ^ (Nat.log2 S + 1) := Nat.lt_log2_self
  rw [ref_word S (Nat.log2 S) _ a b rfl]
  split
  · decide
  · rw [refMant_eq]
    have q := le_nearest (S / 2 ^ (Nat.log2 S - 52)) (S % 2 ^ (Nat.log2 S - 52)) (2 ^ (Nat.log2 S - 52))
    have d : 0 < S / 2 ^ (Nat.log2 S - 52) := by
      apply Nat.div_pos _ (Nat.two_pow_pos _)
      exact Nat.le_trans (Nat.pow_le_pow_right (by decide) (by omega)) a
    omega
/-- The mantissa fits. -/
theorem ref_fits (V top low : Nat) (h2 : V < 2 ^ (top + 1)) (hl : low = top - 52) : V / 2 ^ low < 9007199254740992 := by
  rw [Nat.div_lt_iff_lt_mul (Nat.two_pow_pos _)]
  refine Nat.lt_of_lt_of_le h2 ?_
  rw [show (9007199254740992 : Nat) = 2 ^ 53 by rfl, ← Nat.pow_add]
  exact Nat.pow_le_pow_right (by decide) (by omega)
end Go.Proofs.YtmkdcnemocdefaaGreatFmt
