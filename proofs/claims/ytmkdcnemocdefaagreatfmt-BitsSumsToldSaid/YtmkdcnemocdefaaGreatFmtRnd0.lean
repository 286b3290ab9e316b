/- Rounding a word to p bits: plain; rshVU of one word. -/
import Derived.Test.YtmkdcnemocdefaaGreatFmtFlo2
import Derived.Test.YtmkdcnemocdefaaGreatFmtFinP
import Derived.Test.YtmkdcnemocdefaaGreatFmtFry
namespace Go.Proofs.YtmkdcnemocdefaaGreatFmt
open Go.RowKit

theorem and_bit (v z : Nat) (hv : v < 18446744073709551616) (hz : z ≤ 63) : bits .and .u64 (v : Int) ((2 : Int) ^ z) = ((v / 2 ^ z % 2 * 2 ^ z : Nat) : Int) := by
  have p : (2 : Nat) ^ z ≤ 2 ^ 63 := Nat.pow_le_pow_right (by decide) hz
  have r := u64_and_nat v (2 ^ z) hv (by omega)
  have a := and_shift v 1 z
  have m := Nat.and_two_pow_sub_one_eq_mod (v / 2 ^ z) 1
  rw [show 2 ^ 1 - 1 = 1 by decide, show 2 ^ 1 = 2 by decide] at m
  rw [Nat.mul_one, m, Nat.mul_comm] at a
  rw [a] at r
  rw [← r]
  congr 1
theorem or_top (v : Nat) (hv : v < 9223372036854775808) : bits .or .u64 (v : Int) 9223372036854775808 = ((9223372036854775808 + v : Nat) : Int) := by
  have r := u64_or_nat v 9223372036854775808 (by omega) (by decide)
  have e := or_split 1 v 63 (by omega)
  rw [Nat.or_comm, Nat.one_mul, show (2 : Nat) ^ 63 = 9223372036854775808 by rfl] at e
  rw [e] at r
  exact r
/-- The rounded word: q the kept bits, their count p = 64 - z. -/
def RndW (q p z W : Nat) (ex E : Int) : Prop := q < 2 ^ p ∧ W = q * 2 ^ z ∧ E = ex ∨ q = 2 ^ p ∧ W = 9223372036854775808 ∧ E = ex + 1

theorem kept_bits (N k : Nat) : keptQ N (k + 1) = if N / 2 ^ k % 2 = 1 ∧ (stk N k = 1 ∨ N / 2 ^ (k + 1) % 2 = 1) then N / 2 ^ (k + 1) + 1 else N / 2 ^ (k + 1) := by
  have p0 : 0 < (2 : Nat) ^ k := Nat.two_pow_pos k
  have c := cut_step N k
  have l : N % 2 ^ k < 2 ^ k := Nat.mod_lt _ p0
  have e1 : N % 2 ^ (k + 1) / 2 ^ k = N / 2 ^ k % 2 := by
    rw [c, Nat.add_mul_div_right _ _ p0, Nat.div_eq_of_lt l, Nat.zero_add]
  have e2 : N % 2 ^ (k + 1) % 2 ^ k = N % 2 ^ k := by
    rw [c, Nat.add_mul_mod_self_right, Nat.mod_mod]
  have e3 : (N % 2 ^ k ≠ 0) ↔ (stk N k = 1) := by
    unfold stk
    by_cases h : N % 2 ^ k = 0
    · rw [if_pos h]; simp [h]
    · rw [if_neg h]; simp [h]
  unfold keptQ
  rw [near_bits _ _ _ (Nat.mod_lt _ (Nat.two_pow_pos _)), e1, e2]
  simp only [e3]
theorem pz_64 {p z : Nat} (hp : p ≤ 53) (hz : 64 - p = z) : (2 : Nat) ^ p * 2 ^ z = 18446744073709551616 := by
  rw [← Nat.pow_add, show p + z = 64 by omega]
theorem word_keep {p z f0 : Nat} (hp : p ≤ 53) (hz : 64 - p = z) (hf : f0 < 18446744073709551616) (ex : Int) : RndW (f0 / 2 ^ z) p z (f0 / 2 ^ z * 2 ^ z) ex ex := by
  have e := pz_64 hp hz
  refine Or.inl ⟨?_, rfl, rfl⟩
  rw [Nat.div_lt_iff_lt_mul (Nat.two_pow_pos _), e]
  exact hf
theorem word_up {p z f0 : Nat} (hp : p ≤ 53) (hz : 64 - p = z) (hf : f0 + 2 ^ z < 18446744073709551616) (ex : Int) : RndW (f0 / 2 ^ z + 1) p z ((f0 + 2 ^ z) / 2 ^ z * 2 ^ z) ex ex := by
  rw [show f0 / 2 ^ z + 1 = (f0 + 2 ^ z) / 2 ^ z from (Nat.add_div_right _ (Nat.two_pow_pos _)).symm]
  exact word_keep hp hz hf ex
theorem word_over {p z f0 : Nat} (hp : p ≤ 53) (hz : 64 - p = z) (hf : f0 < 18446744073709551616) (ho : 18446744073709551616 ≤ f0 + 2 ^ z) (hp1 : 1 ≤ p) (ex : Int) :
    RndW (f0 / 2 ^ z + 1) p z ((9223372036854775808 + (f0 + 2 ^ z) % 18446744073709551616 / 2) / 2 ^ z * 2 ^ z) ex (ex + 1) := by
  have e := pz_64 hp hz
  have p0 : 0 < (2 : Nat) ^ z := Nat.two_pow_pos z
  have pz : (2 : Nat) ^ z ≤ 2 ^ 63 := Nat.pow_le_pow_right (by decide) (by omega)
  have e2 : (2 : Nat) ^ (p - 1) * 2 ^ z = 9223372036854775808 := by
    rw [← Nat.pow_add, show p - 1 + z = 63 by omega]
  refine Or.inr ⟨?_, ?_, rfl⟩
  · have d := Nat.div_add_mod f0 (2 ^ z)
    have m := Nat.mod_lt f0 p0
    have a : f0 / 2 ^ z < 2 ^ p := by
      rw [Nat.div_lt_iff_lt_mul p0, e]; exact hf
    have b : 2 ^ p ≤ (f0 + 2 ^ z) / 2 ^ z := by
      rw [Nat.le_div_iff_mul_le p0, e]; exact ho
    rw [Nat.add_div_right _ p0] at b
    omega
  · have r : (f0 + 2 ^ z) % 18446744073709551616 / 2 < 2 ^ z := by omega
    rw [← e2, Nat.mul_comm (2 ^ (p - 1)), Nat.mul_add_div p0, Nat.div_eq_of_lt r, Nat.add_zero, Nat.mul_comm]

set_option maxHeartbeats 1000000 in
theorem rshVU_one (g cz v C : Nat) (f : Nat → Nat) (w : World) (hz : Blk w g C f) (hC : 1 ≤ C) (hv : f 0 = v) :
    Calls Tryz.prog 26 #[.slice (some ⟨g, 0, none⟩) 1 cz, .slice (some ⟨g, 0, none⟩) 1 cz, .int .u64 1] w fun e w' =>
      e = .returned (.int .u64 ((v : Int) * 9223372036854775808 % 18446744073709551616)) ∧ w' = w.setCell ⟨g, 0, none⟩ (.int .u64 ((v / 2 : Nat) : Int)) := by
  have c0 := hz.cell 0 (by omega)
  have f0 := hz.frozen 0
  rw [hv] at c0
  have e2 : ((v / 2 : Nat) : Int) = (v : Int) / 2 := by omega
  have b1 : bits .and .u64 1 63 = 1 := by decide +kernel
  have b2 : bits .and .u64 63 63 = 63 := by decide +kernel
  clear hz
  go_enter Tryz.func26, Tryz.ntmps26
  go_wp2
  go_loopw [8] (fun k wr => k = .int .i64 1 ∧ wr = w) (fun _ _ => 0)
  case atStart => exact ⟨rfl, rfl⟩
  case round =>
    obtain ⟨rfl, rfl⟩ := hrel
    go_wp2
    go_ret
    exact ⟨rfl, rfl⟩
end Go.Proofs.YtmkdcnemocdefaaGreatFmt
