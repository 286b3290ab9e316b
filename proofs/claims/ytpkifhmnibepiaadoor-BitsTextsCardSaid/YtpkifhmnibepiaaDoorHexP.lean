/- A number's bits as a text of sixteen: plain laws. -/
import Derived.Test.YtpkifhmnibepiaaDoorRunesR
import Derived.Test.YtpkifhmnibepiaaDoorScanP
import Derived.Laws.BitsLemmas
import Derived.Laws.Bits64
namespace Go.Proofs.YtpkifhmnibepiaaDoor
open Go.RowKit

def hexD (c : Nat) : Option Nat := if 48 ≤ c ∧ c ≤ 57 then some (c - 48) else if 97 ≤ c ∧ c ≤ 102 then some (c - 87) else if 65 ≤ c ∧ c ≤ 70 then some (c - 55) else none
theorem hexD_lt {c d : Nat} (h : hexD c = some d) : d < 16 := by
  unfold hexD at h
  repeat' split at h
  all_goals first | (cases h; done) | (injection h with h; omega)
/-- Reading k digits more, from i on, with n behind. -/
def rdF (s : ByteArray) : Nat → Nat → Nat → Out
  | 0, _, n => if 16 < s.size then .bad 16 else .ok n 16
  | k + 1, i, n => if i < s.size then (match hexD (bt s i) with | none => .bad i | some d => rdF s k (i + 1) (n * 16 + d)) else .bad s.size
theorem rdF_end {s : ByteArray} {i n : Nat} (h : s.size ≤ i) (hi : i < 16) : rdF s (16 - i) i n = .bad s.size := by
  obtain ⟨k, hk⟩ : ∃ k, 16 - i = k + 1 := ⟨15 - i, by omega⟩
  rw [hk, rdF, if_neg (by omega)]
theorem rdF_none {s : ByteArray} {i n : Nat} (h : i < s.size) (hi : i < 16) (hd : hexD (bt s i) = none) : rdF s (16 - i) i n = .bad i := by
  obtain ⟨k, hk⟩ : ∃ k, 16 - i = k + 1 := ⟨15 - i, by omega⟩
  rw [hk, rdF, if_pos h, hd]
theorem rdF_some {s : ByteArray} {i n d : Nat} (h : i < s.size) (hi : i < 16) (hd : hexD (bt s i) = some d) : rdF s (16 - i) i n = rdF s (16 - (i + 1)) (i + 1) (n * 16 + d) := by
  obtain ⟨k, hk⟩ : ∃ k, 16 - i = k + 1 := ⟨15 - i, by omega⟩
  rw [hk, rdF, if_pos h, hd, show 16 - (i + 1) = k by omega]
theorem wraps_u64 (n : Int) (h₀ : 0 ≤ n) (h₁ : n < 2 ^ 64) : IntKind.u64.wrap n = n := by rw [IntKind.wrap_u64]; omega
theorem u64_or16 (n d : Nat) (hn : n < 1152921504606846976) (hd : d < 16) : bits .or .u64 ((n : Int) * 16) (d : Int) = ((n * 16 + d : Nat) : Int) := by
  have h := bits_join .u64 64 (by decide) wraps_u64 4 ((n : Int) * 16) d (by omega) (by omega) (by omega) (by omega) (by omega) (by omega)
  rw [h]; omega
theorem u64_and15 (n : Nat) (hn : n < 18446744073709551616) : bits .and .u64 (n : Int) 15 = ((n % 16 : Nat) : Int) := by
  have h := bits_mask .u64 64 (by decide) wraps_u64 4 (by decide) n (by omega) (by omega)
  exact h.trans (by omega)
/-- w hexadecimal digits of n. -/
def hexC (d : Nat) : Nat := if d < 10 then 48 + d else 87 + d
def hexL : Nat → Nat → List UInt8
  | 0, _ => []
  | w + 1, n => hexL w (n / 16) ++ [UInt8.ofNat (hexC (n % 16))]
theorem hexL_length : ∀ w n, (hexL w n).length = w
  | 0, _ => rfl
  | w + 1, n => by simp [hexL, hexL_length w]
theorem hexL_zero : ∀ w, hexL w 0 = List.replicate w 48
  | 0 => rfl
  | w + 1 => by rw [hexL, Nat.zero_div, hexL_zero w, List.replicate_succ']; rfl
theorem hexL_cons : ∀ i n, hexL (i + 1) n = UInt8.ofNat (hexC (n / 16 ^ i % 16)) :: hexL i n
  | 0, n => by simp [hexL]
  | i + 1, n => by
    have h := hexL_cons i (n / 16)
    have e : n / 16 ^ (i + 1) = n / 16 / 16 ^ i := by rw [Nat.pow_succ, Nat.mul_comm, Nat.div_div_eq_div_mul]
    rw [hexL, h, e, hexL]; rfl
theorem hexD_hexC (d : Nat) (h : d < 16) : hexD (UInt8.ofNat (hexC d)).toNat = some d := by
  have : ∀ x : Fin 16, hexD (UInt8.ofNat (hexC x.1)).toNat = some x.1 := by decide
  exact this ⟨d, h⟩
theorem rdF_hex : ∀ k (p : List UInt8) (n m : Nat), k + p.length = 16 → rdF ⟨(p ++ hexL k n).toArray⟩ k p.length m = .ok ((m * 16 ^ k + n % 16 ^ k : Nat) : Int) 16
  | 0, p, n, m, h => by
    have hz : (⟨(p ++ hexL 0 n).toArray⟩ : ByteArray).size = 16 := by simp [ByteArray.size, hexL]; omega
    rw [rdF, if_neg (by omega)]
    simp [Nat.mod_one]
  | k + 1, p, n, m, h => by
    have hz : (⟨(p ++ hexL (k + 1) n).toArray⟩ : ByteArray).size = 16 := by simp [ByteArray.size, hexL_length]; omega
    have hd : n / 16 ^ k % 16 < 16 := by omega
    have hm : n % 16 ^ (k + 1) = n % 16 ^ k + 16 ^ k * (n / 16 ^ k % 16) := by rw [Nat.pow_succ, Nat.mod_mul]
    rw [hexL_cons] at *
    generalize n / 16 ^ k % 16 = d at *
    have hb : bt ⟨(p ++ UInt8.ofNat (hexC d) :: hexL k n).toArray⟩ p.length = (UInt8.ofNat (hexC d)).toNat := by
      unfold bt
      simp [ByteArray.get!]
    rw [rdF, if_pos (by omega), hb, hexD_hexC _ hd]
    have ih := rdF_hex k (p ++ [UInt8.ofNat (hexC d)]) n (m * 16 + d) (by simp; omega)
    rw [List.length_append, List.append_assoc] at ih
    simp only [List.length_cons, List.length_nil, List.singleton_append, Nat.zero_add] at ih
    simp only
    rw [ih, hm]
    congr 1
    rw [Nat.pow_succ, Nat.add_mul, Nat.mul_assoc, Nat.mul_comm 16, Nat.mul_comm d]
    omega
end Go.Proofs.YtpkifhmnibepiaaDoor
