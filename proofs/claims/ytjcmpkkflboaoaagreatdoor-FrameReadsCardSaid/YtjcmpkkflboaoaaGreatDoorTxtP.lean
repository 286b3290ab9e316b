/- Decimal texts: plain laws. -/
import Derived.Test.YtjcmpkkflboaoaaGreatDoorTab
import Derived.Lib.ItoaNum
import Derived.Lib.Repeat
namespace Go.Proofs.YtjcmpkkflboaoaaGreatDoor

/-- n's last w decimal digits. -/
def wideL : Nat → Nat → List UInt8
  | 0, _ => []
  | w + 1, n => wideL w (n / 10) ++ [UInt8.ofNat (48 + n % 10)]
theorem wideL_length : ∀ w n, (wideL w n).length = w
  | 0, _ => rfl
  | w + 1, n => by simp [wideL, wideL_length w]
theorem wideL_zero : ∀ w, wideL w 0 = List.replicate w 48
  | 0 => rfl
  | w + 1 => by rw [wideL, Nat.zero_div, wideL_zero w, List.replicate_succ']; rfl
theorem wideL_cons : ∀ i n, wideL (i + 1) n = UInt8.ofNat (48 + n / 10 ^ i % 10) :: wideL i n
  | 0, n => by simp [wideL]
  | i + 1, n => by
    have h := wideL_cons i (n / 10)
    have e : n / 10 ^ (i + 1) = n / 10 / 10 ^ i := by rw [Nat.pow_succ, Nat.mul_comm, Nat.div_div_eq_div_mul]
    rw [wideL, h, e, wideL]; rfl
/-- n's digits, filled up with noughts to w of them. -/
def padL (w n : Nat) : List UInt8 := List.replicate (w - (Lib.decDigits n).length) 48 ++ Lib.decDigits n
theorem decDigits_big {n : Nat} (h : ¬ n < 10) : Lib.decDigits n = Lib.decDigits (n / 10) ++ [UInt8.ofNat (48 + n % 10)] := by rw [Lib.decDigits, dif_neg h]
theorem padL_wide : ∀ w n, n < 10 ^ (w + 1) → padL (w + 1) n = wideL (w + 1) n
  | 0, n, h => by
    have h : n < 10 := by simpa using h
    unfold padL
    rw [Lib.decDigits_one h]
    simp [wideL, Nat.mod_eq_of_lt h]
  | w + 1, n, h => by
    by_cases c : n < 10
    · unfold padL
      rw [Lib.decDigits_one c, wideL, Nat.div_eq_of_lt c, wideL_zero, Nat.mod_eq_of_lt c]
      simp
    · have e := padL_wide w (n / 10) (by rw [Nat.pow_succ] at h; omega)
      rw [wideL, ← e]
      unfold padL
      rw [decDigits_big c]
      simp
theorem padL_one (n : Nat) : padL 1 n = Lib.decDigits n := by
  have h := Lib.nDigits_pos n
  unfold padL
  rw [Lib.decDigits_length, show 1 - Lib.nDigits n = 0 by omega]
  rfl
theorem padL_length_le {w n k : Nat} (hn : n < 10 ^ k) (hk : 1 ≤ k) (hw : w ≤ k) : (padL w n).length ≤ k := by
  have h : (Lib.decDigits n).length ≤ k := by
    rw [Lib.decDigits_length]
    rcases Nat.lt_or_ge k (Lib.nDigits n) with g | g
    · obtain ⟨j, hj⟩ : ∃ j, Lib.nDigits n = j + 1 := ⟨Lib.nDigits n - 1, by have := Lib.nDigits_pos n; omega⟩
      have hlow : 10 ^ j ≤ n ∨ n < 10 := by
        clear hn hw g hk
        induction j generalizing n with
        | zero => exact Or.inr (by
            rcases Nat.lt_or_ge n 10 with a | a
            · exact a
            · rw [Lib.nDigits_big (by omega)] at hj; have := Lib.nDigits_pos (n / 10); omega)
        | succ j ih =>
          rcases Nat.lt_or_ge n 10 with a | a
          · exact Or.inr a
          · rw [Lib.nDigits_big (by omega)] at hj
            rcases ih (n := n / 10) (by omega) with b | b
            · exact Or.inl (by rw [Nat.pow_succ]; omega)
            · rw [Lib.nDigits_small b] at hj
              obtain rfl : j = 0 := by omega
              exact Or.inl (by simpa using a)
      rcases hlow with b | b
      · have : 10 ^ k ≤ 10 ^ j := Nat.pow_le_pow_right (by decide) (by omega)
        omega
      · rw [Lib.nDigits_small b] at g; omega
    · exact g
  unfold padL
  rw [List.length_append, List.length_replicate]
  omega

/-- A string of these bytes. -/
def bs (l : List UInt8) : ByteArray := ⟨l.toArray⟩
theorem bs_append (a b : List UInt8) : bs a ++ bs b = bs (a ++ b) := by
  apply ByteArray.ext
  simp [bs, ByteArray.data_append]
theorem bs_size (l : List UInt8) : (bs l).size = l.length := by simp [bs, ByteArray.size]
theorem bs_inj {a b : List UInt8} : bs a = bs b ↔ a = b := ⟨fun h => by simpa [bs] using h, fun h => by rw [h]⟩
end Go.Proofs.YtjcmpkkflboaoaaGreatDoor
