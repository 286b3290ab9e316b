/- Whole numbers by digits to the base of a million: plain laws. -/
import Derived.Test.YtjcmpkkflboaoaaGreatDoorTab
namespace Go.Proofs.YtjcmpkkflboaoaaGreatDoor
open Go.RowKit

/-- The base's powers. -/
def pw (k : Nat) : Nat := 1000000 ^ k
theorem pw_zero : pw 0 = 1 := rfl
theorem pw_succ (k : Nat) : pw (k + 1) = pw k * 1000000 := Nat.pow_succ ..
theorem pw_pos (k : Nat) : 0 < pw k := Nat.pow_pos (by decide)
theorem pw_add (a b : Nat) : pw (a + b) = pw a * pw b := Nat.pow_add ..
theorem pw_mono {a b : Nat} (h : a ≤ b) : pw a ≤ pw b := Nat.pow_le_pow_right (by decide) h

/-- The number of the first k digits. -/
def valF (M : Nat → Nat) : Nat → Nat
  | 0 => 0
  | k + 1 => valF M k + M k * pw k
def smallF (M : Nat → Nat) (len : Nat) : Prop := ∀ j, j < len → M j < 1000000
theorem smallF.less {M : Nat → Nat} {k : Nat} (h : smallF M (k + 1)) : smallF M k := fun j hj => h j (by omega)
theorem valF_lt {M : Nat → Nat} {len : Nat} (h : smallF M len) : valF M len < pw len := by
  induction len with
  | zero => simp [valF, pw]
  | succ k ih =>
    have h1 := ih h.less
    have h2 := h k (by omega)
    have h3 : (M k + 1) * pw k ≤ 1000000 * pw k := Nat.mul_le_mul_right _ h2
    rw [Nat.add_mul] at h3
    rw [valF, pw_succ, Nat.mul_comm (pw k)]
    omega
theorem digit_valF {M : Nat → Nat} {len : Nat} (h : smallF M len) : ∀ j, j < len → valF M len / pw j % 1000000 = M j := by
  induction len with
  | zero => intro j hj; omega
  | succ k ih =>
    intro j hj
    have hk := h k (by omega)
    rw [valF]
    by_cases c : j = k
    · subst c
      rw [Nat.add_mul_div_right _ _ (pw_pos j), Nat.div_eq_of_lt (valF_lt h.less), Nat.zero_add, Nat.mod_eq_of_lt hk]
    · have e : M k * pw k = (M k * pw (k - j - 1) * 1000000) * pw j := by
        rw [Nat.mul_assoc, Nat.mul_assoc, Nat.mul_comm 1000000, ← Nat.mul_assoc (pw (k - j - 1)), ← pw_add, ← pw_succ]
        rw [show k - j - 1 + j + 1 = k by omega]
      rw [e, Nat.add_mul_div_right _ _ (pw_pos j), Nat.add_mul_mod_self_right, ih h.less j (by omega)]
theorem valF_zeros {M : Nat → Nat} {n len : Nat} (hn : n ≤ len) (h : ∀ j, n ≤ j → j < len → M j = 0) : valF M len = valF M n := by
  induction len with
  | zero => rw [show n = 0 by omega]
  | succ k ih =>
    by_cases c : n = k + 1
    · rw [c]
    · rw [valF, h k (by omega) (by omega), Nat.zero_mul, Nat.add_zero]
      exact ih (by omega) fun j h1 h2 => h j h1 (by omega)
theorem valF_ge {M : Nat → Nat} {n : Nat} (h : M n ≠ 0) : pw n ≤ valF M (n + 1) := by
  rw [valF]
  have : 1 * pw n ≤ M n * pw n := Nat.mul_le_mul_right _ (by omega)
  omega
theorem valF_congr {M N : Nat → Nat} {len : Nat} (h : ∀ j, j < len → M j = N j) : valF M len = valF N len := by
  induction len with
  | zero => rfl
  | succ k ih => rw [valF, valF, ih fun j hj => h j (by omega), h k (by omega)]
def putF (M : Nat → Nat) (i x : Nat) : Nat → Nat := fun j => if j = i then x else M j
theorem putF_same (M : Nat → Nat) (i x : Nat) : putF M i x i = x := if_pos rfl
theorem putF_other (M : Nat → Nat) {i j : Nat} (x : Nat) (h : j ≠ i) : putF M i x j = M j := if_neg h
theorem valF_put {M : Nat → Nat} {i x len : Nat} (hi : i < len) : valF (putF M i x) len + M i * pw i = valF M len + x * pw i := by
  induction len with
  | zero => omega
  | succ k ih =>
    rw [valF, valF]
    by_cases c : i = k
    · subst c
      rw [putF_same, valF_congr (N := M) fun j hj => putF_other M x (by omega)]
      omega
    · rw [putF_other M x (by omega)]
      have := ih (by omega)
      omega
theorem smallF.put {M : Nat → Nat} {i x len : Nat} (h : smallF M len) (hx : x < 1000000) : smallF (putF M i x) len := fun j hj => by
  unfold putF; split
  · exact hx
  · exact h j hj
/-- The digits of a number. -/
def dgt (v j : Nat) : Nat := v / pw j % 1000000
theorem dgt_lt (v j : Nat) : dgt v j < 1000000 := Nat.mod_lt _ (by decide)
theorem valF_dgt (v : Nat) (len : Nat) : valF (dgt v) len = v % pw len := by
  induction len with
  | zero => simp [valF, pw, Nat.mod_one]
  | succ k ih => rw [valF, ih, pw_succ, Nat.mod_mul, dgt, Nat.mul_comm (pw k)]
theorem valF_dgt_all {v len : Nat} (h : v < pw len) : valF (dgt v) len = v := by rw [valF_dgt, Nat.mod_eq_of_lt h]

/-- So many digits has a number. -/
def Wide (v len : Nat) : Prop := v < pw len ∧ (0 < len → pw (len - 1) ≤ v)
theorem wide_eq {v m n : Nat} (h : Wide v m) (k : Wide v n) : m = n := by
  rcases Nat.lt_trichotomy m n with c | c | c
  · have h1 := h.1
    have h2 := k.2 (by omega)
    have := pw_mono (show m ≤ n - 1 by omega)
    omega
  · exact c
  · have h1 := k.1
    have h2 := h.2 (by omega)
    have := pw_mono (show n ≤ m - 1 by omega)
    omega

/-! ### the product, digit by digit -/
/-- Ahead of the round (i, k) of the product. -/
def MulI (a b la lb : Nat) (i k c : Nat) (M : Nat → Nat) : Prop :=
  smallF M (la + lb) ∧ c < 1000000 ∧ (∀ j, i + lb ≤ j → M j = 0) ∧ valF M (la + lb) + c * pw (i + k) = valF (dgt a) i * b + dgt a i * pw i * valF (dgt b) k
theorem mulI_step {a b la lb i k c : Nat} {M : Nat → Nat} (h : MulI a b la lb i k c M) (hi : i < la) (hk : k < lb) :
    MulI a b la lb i (k + 1) ((c + M (i + k) + dgt a i * dgt b k) / 1000000) (putF M (i + k) ((c + M (i + k) + dgt a i * dgt b k) % 1000000)) ∧ c + M (i + k) + dgt a i * dgt b k < 1000000 * 1000000 := by
  obtain ⟨h1, h2, h3, h4⟩ := h
  have m1 := h1 (i + k) (by omega)
  have m2 : dgt a i * dgt b k ≤ 999999 * 999999 := Nat.mul_le_mul (by have := dgt_lt a i; omega) (by have := dgt_lt b k; omega)
  have hb : c + M (i + k) + dgt a i * dgt b k < 1000000 * 1000000 := by omega
  refine ⟨⟨h1.put (Nat.mod_lt _ (by decide)), Nat.div_lt_of_lt_mul hb, fun j hj => ?_, ?_⟩, hb⟩
  · rw [putF_other _ _ (by omega)]; exact h3 j hj
  · have hp := valF_put (M := M) (x := (c + M (i + k) + dgt a i * dgt b k) % 1000000) (show i + k < la + lb by omega)
    have e : (c + M (i + k) + dgt a i * dgt b k) / 1000000 * pw (i + (k + 1)) + (c + M (i + k) + dgt a i * dgt b k) % 1000000 * pw (i + k) = (c + M (i + k) + dgt a i * dgt b k) * pw (i + k) := by
      rw [show i + (k + 1) = i + k + 1 by omega, pw_succ, Nat.mul_comm (pw (i + k)) 1000000, ← Nat.mul_assoc, ← Nat.add_mul]
      congr 1
      omega
    have e2 : dgt a i * pw i * valF (dgt b) (k + 1) = dgt a i * pw i * valF (dgt b) k + dgt a i * dgt b k * pw (i + k) := by
      rw [valF, Nat.mul_add, pw_add]
      congr 1
      simp only [Nat.mul_left_comm, Nat.mul_assoc]
    rw [e2]
    rw [Nat.add_mul, Nat.add_mul] at e
    omega
theorem mulI_close {a b la lb i c : Nat} {M : Nat → Nat} (h : MulI a b la lb i lb c M) (hb : b < pw lb) (hi : i < la) : MulI a b la lb (i + 1) 0 0 (putF M (i + lb) c) := by
  obtain ⟨h1, h2, h3, h4⟩ := h
  refine ⟨h1.put h2, by decide, fun j hj => ?_, ?_⟩
  · rw [putF_other _ _ (by omega)]; exact h3 j (by omega)
  · have hp := valF_put (M := M) (x := c) (show i + lb < la + lb by omega)
    rw [h3 (i + lb) (by omega)] at hp
    rw [valF_dgt_all hb] at h4
    have e : valF (dgt a) (i + 1) * b = valF (dgt a) i * b + dgt a i * pw i * b := by rw [valF, Nat.add_mul]
    have e0 : valF (dgt b) 0 = 0 := rfl
    rw [Nat.zero_mul, Nat.add_zero] at hp
    rw [e0, Nat.mul_zero, Nat.zero_mul, Nat.add_zero, Nat.add_zero, e]
    omega
theorem mulI_zero (a b la lb : Nat) : MulI a b la lb 0 0 0 (fun _ => 0) := by
  refine ⟨fun _ _ => Nat.succ_pos _, by decide, fun _ _ => rfl, ?_⟩
  have e : ∀ n, valF (fun _ => 0) n = 0 := by
    intro n
    induction n with
    | zero => rfl
    | succ k ih => rw [valF, ih]; simp
  rw [e]; simp [valF]
theorem mulI_done {a b la lb : Nat} {M : Nat → Nat} (h : MulI a b la lb la 0 0 M) (ha : a < pw la) : valF M (la + lb) = a * b ∧ smallF M (la + lb) := by
  obtain ⟨h1, _, _, h4⟩ := h
  have e0 : valF (dgt b) 0 = 0 := rfl
  rw [valF_dgt_all ha, e0, Nat.mul_zero, Nat.zero_mul, Nat.add_zero, Nat.add_zero] at h4
  exact ⟨h4, h1⟩
/-- What is left when the noughts at the end are cut off. -/
theorem cut_wide {M : Nat → Nat} {n len v : Nat} (hn : n ≤ len) (hs : smallF M len) (hv : valF M len = v) (hz : ∀ j, n ≤ j → j < len → M j = 0) (h : 0 < n → M (n - 1) ≠ 0) :
    Wide v n ∧ ∀ j, j < n → M j = dgt v j := by
  have e := valF_zeros hn hz
  rw [hv] at e
  refine ⟨⟨?_, fun h0 => ?_⟩, fun j hj => ?_⟩
  · rw [e]; exact valF_lt fun j hj => hs j (by omega)
  · obtain ⟨m, rfl⟩ : ∃ m, n = m + 1 := ⟨n - 1, by omega⟩
    rw [e]
    exact valF_ge (by simpa using h h0)
  · rw [← hv]; exact (digit_valF hs j (by omega)).symm
end Go.Proofs.YtjcmpkkflboaoaaGreatDoor
