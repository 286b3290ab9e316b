/- The double of a rounded mantissa: plain. -/
import Derived.Test.YtmkdcnemocdefaaGreatFmtTab
namespace Go.Proofs.YtmkdcnemocdefaaGreatFmt

/-- The double's word, off the mantissa of one word and how many bits the number has. -/
def finW (w E : Nat) : Nat := if 2099 ≤ E then 9218868437227405312 else if E < 53 then w / 2 ^ (64 - E) else (E - 52) * 4503599627370496 + w / 2048 % 4503599627370496
/-- How many bits are kept. -/
def keepN (E : Nat) : Nat := min E 53
/-- The mantissa of the kept bits, as a whole number. -/
def keptQ (N d : Nat) : Nat := nearest (N / 2 ^ d) (N % 2 ^ d) (2 ^ d)

theorem kept_eq {K N n A S E : Nat} (h : Man K N n A S) (hE : E = A + 64 * n - K) : keptQ N (64 * n - keepN E) = nearest (S / 2 ^ (E - keepN E)) (S % 2 ^ (E - keepN E)) (2 ^ (E - keepN E)) := by
  have hp := h.plain
  have n1 := h.pos.2.2
  rw [← hE] at hp
  exact cut_nearest hp (by unfold keepN; omega) (by unfold keepN; omega)
theorem kept_bounds {K N n A S E : Nat} (h : Man K N n A S) (hE : E = A + 64 * n - K) :
    2 ^ (keepN E - 1) ≤ keptQ N (64 * n - keepN E) ∧ keptQ N (64 * n - keepN E) ≤ 2 ^ keepN E ∧ (E ≤ 53 → keptQ N (64 * n - keepN E) = S ∧ S < 2 ^ keepN E) := by
  have ⟨lo, hi⟩ := h.size
  have t := h.top
  rw [← hE] at lo hi
  have E1 : 1 ≤ E := by omega
  rw [kept_eq h hE]
  have a := le_nearest (S / 2 ^ (E - keepN E)) (S % 2 ^ (E - keepN E)) (2 ^ (E - keepN E))
  have b := nearest_le (S / 2 ^ (E - keepN E)) (S % 2 ^ (E - keepN E)) (2 ^ (E - keepN E))
  have p0 : 0 < (2 : Nat) ^ (E - keepN E) := Nat.two_pow_pos _
  have kE : keepN E ≤ E := by unfold keepN; omega
  have k1 : 1 ≤ keepN E := by unfold keepN; omega
  refine ⟨?_, ?_, ?_⟩
  · refine Nat.le_trans ?_ a
    rw [Nat.le_div_iff_mul_le p0, ← Nat.pow_add, show keepN E - 1 + (E - keepN E) = E - 1 by omega]
    obtain ⟨e, rfl⟩ : ∃ e, E = e + 1 := ⟨E - 1, by omega⟩
    rw [Nat.pow_succ] at lo
    rw [show e + 1 - 1 = e by omega]
    omega
  · have c : S / 2 ^ (E - keepN E) < 2 ^ keepN E := by
      rw [Nat.div_lt_iff_lt_mul p0, ← Nat.pow_add, show keepN E + (E - keepN E) = E by omega]
      exact hi
    omega
  · intro h53
    have e : keepN E = E := by unfold keepN; omega
    rw [e, Nat.sub_self, Nat.pow_zero, Nat.div_one, Nat.mod_one, near_none]
    exact ⟨rfl, hi⟩
theorem fin_word {K N n A S E w E' : Nat} (h : Man K N n A S) (hE : E = A + 64 * n - K)
    (hw : keptQ N (64 * n - keepN E) < 2 ^ keepN E ∧ w = keptQ N (64 * n - keepN E) * 2 ^ (64 - keepN E) ∧ E' = E ∨ keptQ N (64 * n - keepN E) = 2 ^ keepN E ∧ w = 9223372036854775808 ∧ E' = E + 1) :
    finW w E' = rndW S := by
  have ⟨lo, hi⟩ := h.size
  have t := h.top
  rw [← hE] at lo hi
  have E1 : 1 ≤ E := by omega
  have ⟨b1, b2, b3⟩ := kept_bounds h hE
  have l := log2_of lo hi
  have ke := kept_eq h hE
  generalize keptQ N (64 * n - keepN E) = q at *
  rcases Nat.lt_or_ge E 53 with c | c
  · have ⟨d1, d2⟩ := b3 (by omega)
    have e : keepN E = E := by unfold keepN; omega
    rw [rnd_small S E l (by omega) hi]
    rw [e] at hw d2
    rcases hw with ⟨_, rfl, rfl⟩ | ⟨g, _⟩
    · unfold finW
      rw [if_neg (by omega), if_pos c, Nat.mul_div_cancel _ (Nat.two_pow_pos _), d1]
    · omega
  · have e : keepN E = 53 := by unfold keepN; omega
    rw [e] at hw ke b1 b2
    have ⟨r1, r2, r3⟩ := rnd_big S E q l c lo hi ke
    rw [r3]
    clear ke r3 b3 h hE lo hi l t
    rw [show (2 : Nat) ^ 52 = 4503599627370496 by rfl] at *
    rw [show (2 : Nat) ^ 53 = 9007199254740992 by rfl] at *
    rcases hw with ⟨g, rfl, rfl⟩ | ⟨g, rfl, rfl⟩
    · unfold finW
      rw [show (64 - 53) = 11 by rfl, show (2 : Nat) ^ 11 = 2048 by rfl, Nat.mul_div_cancel _ (by decide)]
      by_cases k : 2099 ≤ E'
      · rw [if_pos k, if_pos (by omega)]
      · rw [if_neg k, if_neg (by omega), if_neg (by omega)]
        omega
    · unfold finW
      by_cases k : 2099 ≤ E + 1
      · rw [if_pos k, if_pos (by omega)]
      · rw [if_neg k, if_neg (by omega), if_neg (by omega)]
        omega
end Go.Proofs.YtmkdcnemocdefaaGreatFmt
