/- Bits and words of a row of words: plain. -/
import Derived.Test.YtmkdcnemocdefaaGreatFmtTab
namespace Go.Proofs.YtmkdcnemocdefaaGreatFmt

/-- A row, parted at a word. -/
theorem num_at (f : Nat → Nat) (n j : Nat) (h : j < n) : ∃ R, num f n = num f j + 2 ^ (64 * j) * (f j + 2 ^ 64 * R) := by
  obtain ⟨b, rfl⟩ : ∃ b, n = j + (1 + b) := ⟨n - j - 1, by omega⟩
  refine ⟨num (fun i => f (j + (1 + i))) b, ?_⟩
  rw [num_add, num_add _ 1 b]
  simp only [num, Nat.mul_zero, Nat.pow_zero, Nat.mul_one, Nat.zero_add, Nat.add_zero]
theorem num_bit (f : Nat → Nat) (n k : Nat) (hk : k / 64 < n) (hf : Wds f n) : num f n / 2 ^ k % 2 = f (k / 64) / 2 ^ (k % 64) % 2 := by
  obtain ⟨R, hR⟩ := num_at f n (k / 64) hk
  have l : num f (k / 64) < 2 ^ (64 * (k / 64)) := num_lt (hf.le (by omega))
  have hb : k % 64 < 64 := Nat.mod_lt _ (by decide)
  have e : (2 : Nat) ^ k = 2 ^ (64 * (k / 64)) * 2 ^ (k % 64) := by rw [← Nat.pow_add, Nat.div_add_mod]
  rw [hR, e, ← Nat.div_div_eq_div_mul, Nat.add_mul_div_left _ _ (Nat.two_pow_pos _), Nat.div_eq_of_lt l, Nat.zero_add]
  generalize k % 64 = b at *
  have e2 : (2 : Nat) ^ 64 = 2 ^ b * (2 * 2 ^ (63 - b)) := by rw [← Nat.pow_succ', ← Nat.pow_add]; congr 1; omega
  rw [e2, Nat.mul_assoc, Nat.add_mul_div_left _ _ (Nat.two_pow_pos _), Nat.mul_assoc, Nat.add_mul_mod_self_left]
theorem num_rest (f : Nat → Nat) (n k : Nat) (hk : k / 64 < n) (hf : Wds f n) : num f n % 2 ^ k = num f (k / 64) + 2 ^ (64 * (k / 64)) * (f (k / 64) % 2 ^ (k % 64)) := by
  obtain ⟨R, hR⟩ := num_at f n (k / 64) hk
  have l : num f (k / 64) < 2 ^ (64 * (k / 64)) := num_lt (hf.le (by omega))
  have hb : k % 64 < 64 := Nat.mod_lt _ (by decide)
  have e : (2 : Nat) ^ k = 2 ^ (64 * (k / 64)) * 2 ^ (k % 64) := by rw [← Nat.pow_add, Nat.div_add_mod]
  rw [hR, e, Nat.mod_mul, Nat.add_mul_mod_self_left, Nat.mod_eq_of_lt l, Nat.add_mul_div_left _ _ (Nat.two_pow_pos _), Nat.div_eq_of_lt l, Nat.zero_add]
  generalize k % 64 = b at *
  have e2 : (2 : Nat) ^ 64 = 2 ^ b * (2 * 2 ^ (63 - b)) := by rw [← Nat.pow_succ', ← Nat.pow_add]; congr 1; omega
  rw [e2, Nat.mul_assoc, Nat.add_mul_mod_self_left]
theorem num_eq_zero {f : Nat → Nat} : ∀ {n : Nat}, num f n = 0 → ∀ i, i < n → f i = 0
  | 0, _, i, hi => by omega
  | n + 1, h, i, hi => by
    rw [num] at h
    have p : 0 < (2 : Nat) ^ (64 * n) := Nat.two_pow_pos _
    rcases Nat.lt_or_ge i n with g | g
    · exact num_eq_zero (n := n) (by omega) i g
    · obtain rfl : i = n := by omega
      rcases Nat.mul_eq_zero.1 (show f i * 2 ^ (64 * i) = 0 by omega) with e | e
      · exact e
      · omega
/-- Whether anything stands below bit k. -/
theorem rest_zero (f : Nat → Nat) (n k : Nat) (hk : k / 64 < n) (hf : Wds f n) : num f n % 2 ^ k = 0 ↔ (∀ i, i < k / 64 → f i = 0) ∧ f (k / 64) % 2 ^ (k % 64) = 0 := by
  rw [num_rest f n k hk hf]
  have p : 0 < (2 : Nat) ^ (64 * (k / 64)) := Nat.two_pow_pos _
  constructor
  · intro h
    refine ⟨num_eq_zero (by omega), ?_⟩
    rcases Nat.mul_eq_zero.1 (show 2 ^ (64 * (k / 64)) * (f (k / 64) % 2 ^ (k % 64)) = 0 by omega) with e | e
    · omega
    · exact e
  · intro ⟨h1, h2⟩
    rw [num_zero h1, h2, Nat.mul_zero]
/-- The first bits of a row. -/
theorem num_head (f : Nat → Nat) (n p : Nat) (hn : 1 ≤ n) (hp : p ≤ 64) (hf : Wds f n) : num f n / 2 ^ (64 * n - p) = f (n - 1) / 2 ^ (64 - p) := by
  obtain ⟨m, rfl⟩ : ∃ m, n = m + 1 := ⟨n - 1, by omega⟩
  have l : num f m < 2 ^ (64 * m) := num_lt (hf.le (by omega))
  have e : (2 : Nat) ^ (64 * (m + 1) - p) = 2 ^ (64 * m) * 2 ^ (64 - p) := by rw [← Nat.pow_add]; congr 1; omega
  rw [num, e, ← Nat.div_div_eq_div_mul, Nat.mul_comm (f m), Nat.add_mul_div_left _ _ (Nat.two_pow_pos _), Nat.div_eq_of_lt l, Nat.zero_add, show m + 1 - 1 = m by omega]
/-- The top word. -/
theorem top_ge {f : Nat → Nat} {n : Nat} (hn : 1 ≤ n) (hf : Wds f n) (h : 2 ^ (64 * n) ≤ 2 * num f n) : 9223372036854775808 ≤ f (n - 1) := by
  obtain ⟨m, rfl⟩ : ∃ m, n = m + 1 := ⟨n - 1, by omega⟩
  have l : num f m < 2 ^ (64 * m) := num_lt (hf.le (by omega))
  rw [num, p64] at h
  rw [show m + 1 - 1 = m by omega]
  rcases Nat.lt_or_ge (f m) 9223372036854775808 with g | g
  · exfalso
    have q := Nat.mul_le_mul_right (2 ^ (64 * m)) (Nat.le_sub_one_of_lt g)
    generalize (2 : Nat) ^ (64 * m) = P at *
    rw [Nat.mul_comm] at q
    have : (9223372036854775808 - 1) * P = 9223372036854775807 * P := rfl
    rw [Nat.mul_comm (f m)] at h
    omega
  · exact g
theorem lo_of_top {f : Nat → Nat} {n : Nat} (hn : 1 ≤ n) (h : 9223372036854775808 ≤ f (n - 1)) : 2 ^ (64 * n) ≤ 2 * num f n := by
  obtain ⟨m, rfl⟩ : ∃ m, n = m + 1 := ⟨n - 1, by omega⟩
  rw [show m + 1 - 1 = m by omega] at h
  rw [num, p64]
  have q := Nat.mul_le_mul_right (2 ^ (64 * m)) h
  generalize (2 : Nat) ^ (64 * m) = P at *
  omega
/-- The words behind the first d of a row. -/
theorem num_drop (f : Nat → Nat) (n d : Nat) (h : d ≤ n) (hf : Wds f n) : num (fun i => f (d + i)) (n - d) = num f n / 2 ^ (64 * d) := by
  obtain ⟨b, rfl⟩ : ∃ b, n = d + b := ⟨n - d, by omega⟩
  have l : num f d < 2 ^ (64 * d) := num_lt (hf.le (by omega))
  rw [num_add, Nat.add_mul_div_left _ _ (Nat.two_pow_pos _), Nat.div_eq_of_lt l, Nat.zero_add, show d + b - d = b by omega]
/-- Noughts put ahead of a row: it is shifted by whole words. -/
theorem num_lift (f : Nat → Nat) (d n : Nat) : num (fun i => if i < d then 0 else f (i - d)) (d + n) = num f n * 2 ^ (64 * d) := by
  rw [num_add, num_zero (fun i hi => if_pos hi), Nat.zero_add, Nat.mul_comm]
  congr 1
  exact num_congr (fun i _ => by rw [if_neg (by omega)]; congr 1; omega)
end Go.Proofs.YtmkdcnemocdefaaGreatFmt
