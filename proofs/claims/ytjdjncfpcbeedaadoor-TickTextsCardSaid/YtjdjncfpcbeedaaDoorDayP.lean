/- Plain laws of days and dates. -/
import Derived.Test.YtjdjncfpcbeedaaDoorDay
namespace Go.Proofs.YtjdjncfpcbeedaaDoor
open Go.RowKit

/-- How many days lie ahead of a year; at the year nought too. -/
def aheadE (y : Int) : Int := 365 * (y - 1) + (y - 1) / 4 - (y - 1) / 100 + (y - 1) / 400
theorem aheadE_eq {y : Int} (h : 1 ≤ y) : aheadF y = aheadE y := by
  unfold aheadF aheadE
  rw [Int.tdiv_eq_ediv_of_nonneg (a := y - 1) (b := 4) (by omega), Int.tdiv_eq_ediv_of_nonneg (a := y - 1) (b := 100) (by omega), Int.tdiv_eq_ediv_of_nonneg (a := y - 1) (b := 400) (by omega)]
theorem leap_mod {y : Int} (h : 0 ≤ y) : leapF y = true ↔ y % 4 = 0 ∧ (y % 100 ≠ 0 ∨ y % 400 = 0) := by
  unfold leapF
  rw [Int.tmod_eq_emod_of_nonneg h, Int.tmod_eq_emod_of_nonneg h, Int.tmod_eq_emod_of_nonneg h]
  simp
def yearF (y : Int) : Int := if leapF y then 366 else 365
theorem year_bd (y : Int) : 365 ≤ yearF y ∧ yearF y ≤ 366 := by unfold yearF; split <;> omega
theorem ahead_step {y : Int} (h : 0 ≤ y) : aheadE (y + 1) = aheadE y + yearF y := by
  have hl := leap_mod h
  unfold aheadE yearF
  by_cases c : leapF y = true
  · rw [if_pos c]; have := hl.1 c; omega
  · rw [if_neg c]
    have : ¬ (y % 4 = 0 ∧ (y % 100 ≠ 0 ∨ y % 400 = 0)) := fun g => c (hl.2 g)
    omega
theorem ahead_ge {y : Int} (h : 0 ≤ y) : 365 * y - 400 ≤ aheadE y := by unfold aheadE; omega
theorem ahead_le {y z : Int} (h : y ≤ z) : aheadE y ≤ aheadE z := by unfold aheadE; omega
theorem ahead_1 : aheadE 1 = 0 := by decide
theorem ahead_10000 : aheadE 10000 = 3652059 := by decide
theorem ahead_400 (q : Int) : aheadE (q * 400) = 146097 * q - 366 := by unfold aheadE; omega

theorem sum_year (y : Int) : sumLong y 12 = yearF y := by
  unfold yearF
  by_cases c : leapF y = true
  · rw [if_pos c]; simp [sumLong, longF, c]
  · rw [if_neg c]; simp [sumLong, longF, c]
theorem sum_mono (y : Int) (a n : Nat) : sumLong y a ≤ sumLong y (a + n) := by
  induction n with
  | zero => simp
  | succ n ih =>
    have := long_bd y (((a + n : Nat) : Int) + 1)
    rw [show a + (n + 1) = a + n + 1 by omega, sumLong]; omega
theorem sum_le (y : Int) {a b : Nat} (h : a ≤ b) : sumLong y a ≤ sumLong y b := by
  have := sum_mono y a (b - a)
  rwa [show a + (b - a) = b by omega] at this

/-- The date of a day. -/
def IsDate (n y : Int) (m : Nat) (d : Int) : Prop := 1 ≤ y ∧ y ≤ 9999 ∧ 1 ≤ m ∧ m ≤ 12 ∧ 1 ≤ d ∧ d ≤ longF y m ∧ aheadE y - 730119 + sumLong y (m - 1) + d - 1 = n
theorem isDate_year {n y : Int} {m : Nat} {d : Int} (h : IsDate n y m d) : aheadE y ≤ n + 730119 ∧ n + 730119 < aheadE (y + 1) := by
  obtain ⟨h1, h2, h3, h4, h5, h6, h7⟩ := h
  obtain ⟨k, rfl⟩ : ∃ k, m = k + 1 := ⟨m - 1, by omega⟩
  simp only [Nat.add_sub_cancel] at h7
  have a := (sumLong_bd y k).1
  have b := sum_le y (show k + 1 ≤ 12 by omega)
  rw [sum_year, sumLong] at b
  rw [Int.natCast_add, Int.natCast_one] at h6
  rw [ahead_step (by omega)]
  omega
theorem isDate_one {n y y' : Int} {m m' : Nat} {d d' : Int} (h : IsDate n y m d) (k : IsDate n y' m' d') : y = y' ∧ m = m' ∧ d = d' := by
  have a := isDate_year h
  have b := isDate_year k
  have e : y = y' := by
    rcases Int.lt_trichotomy y y' with c | c | c
    · have := ahead_le (show y + 1 ≤ y' by omega); omega
    · exact c
    · have := ahead_le (show y' + 1 ≤ y by omega); omega
  subst e
  obtain ⟨h1, h2, h3, h4, h5, h6, h7⟩ := h
  obtain ⟨k1, k2, k3, k4, k5, k6, k7⟩ := k
  obtain ⟨i, rfl⟩ : ∃ i, m = i + 1 := ⟨m - 1, by omega⟩
  obtain ⟨j, rfl⟩ : ∃ j, m' = j + 1 := ⟨m' - 1, by omega⟩
  simp only [Nat.add_sub_cancel] at h7 k7
  rw [Int.natCast_add, Int.natCast_one] at h6 k6
  have e : i = j := by
    rcases Nat.lt_trichotomy i j with c | c | c
    · have := sum_le y (show i + 1 ≤ j by omega); rw [sumLong] at this; omega
    · exact c
    · have := sum_le y (show j + 1 ≤ i by omega); rw [sumLong] at this; omega
  subst e
  exact ⟨rfl, rfl, by omega⟩
/-- Where the months are gone through. -/
theorem month_more {y r : Int} {k : Nat} (hk : k + 1 ≤ 12) (h1 : r < yearF y) (h2 : longF y ((k : Int) + 1) ≤ r - sumLong y k) : k + 2 ≤ 12 := by
  rcases Nat.lt_or_ge (k + 2) 13 with c | c
  · omega
  · obtain rfl : k = 11 := by omega
    have := sum_year y
    rw [sumLong] at this
    have e : longF y (((11 : Nat) : Int) + 1) = longF y (12 : Int) := rfl
    have e2 : sumLong y 12 = sumLong y 11 + longF y (((11 : Nat) : Int) + 1) := rfl
    omega
theorem dayOf_date {y : Int} {m : Nat} {d : Int} (h1 : 1 ≤ y) (h2 : y ≤ 9999) (h3 : 1 ≤ m) (h4 : m ≤ 12) (h5 : 1 ≤ d) (h6 : d ≤ longF y m) : IsDate (dayOfF y m d) y m d :=
  ⟨h1, h2, h3, h4, h5, h6, by unfold dayOfF; rw [aheadE_eq h1]⟩
/-- Each day that is one has a date. -/
theorem month_exists {y r : Int} (h1 : 0 ≤ r) (h2 : r < yearF y) : ∃ k : Nat, k + 1 ≤ 12 ∧ sumLong y k ≤ r ∧ r < sumLong y (k + 1) := by
  have key : ∀ n : Nat, r < sumLong y n → ∃ k : Nat, k + 1 ≤ n ∧ sumLong y k ≤ r ∧ r < sumLong y (k + 1) := by
    intro n
    induction n with
    | zero => intro h; rw [sumLong] at h; omega
    | succ n ih =>
      intro h
      by_cases c : r < sumLong y n
      · obtain ⟨k, a, b⟩ := ih c
        exact ⟨k, by omega, b⟩
      · exact ⟨n, by omega, by omega, h⟩
  exact key 12 (by rw [sum_year]; exact h2)
theorem year_exists {n : Int} (h1 : 0 ≤ n) (h2 : n < 3652059) : ∃ y : Int, 1 ≤ y ∧ y ≤ 9999 ∧ aheadE y ≤ n ∧ n < aheadE (y + 1) := by
  have key : ∀ j : Nat, n < aheadE ((j : Int) + 1) → ∃ y : Int, 1 ≤ y ∧ y ≤ j ∧ aheadE y ≤ n ∧ n < aheadE (y + 1) := by
    intro j
    induction j with
    | zero => intro h; rw [show ((0 : Nat) : Int) + 1 = 1 by decide, ahead_1] at h; omega
    | succ j ih =>
      intro h
      by_cases c : n < aheadE ((j : Int) + 1)
      · obtain ⟨y, a, b, d⟩ := ih c
        exact ⟨y, a, by omega, d⟩
      · exact ⟨(j : Int) + 1, by omega, by omega, by omega, by rw [Int.natCast_add, Int.natCast_one] at h; exact h⟩
  exact key 9999 (by rw [show ((9999 : Nat) : Int) + 1 = 10000 by decide, ahead_10000]; exact h2)
theorem isDate_exists {n : Int} (n1 : -730119 ≤ n) (n2 : n < 2921940) : ∃ y d : Int, ∃ k : Nat, IsDate n y (k + 1) d := by
  obtain ⟨y, y1, y2, h1, h2⟩ := year_exists (n := n + 730119) (by omega) (by omega)
  have hs := ahead_step (show 0 ≤ y by omega)
  obtain ⟨k, hk, k1, k2⟩ := month_exists (y := y) (r := n + 730119 - aheadE y) (by omega) (by omega)
  rw [sumLong] at k2
  exact ⟨y, n + 730119 - aheadE y - sumLong y k + 1, k, y1, y2, by omega, hk, by omega, by rw [Int.natCast_add, Int.natCast_one]; omega, by simp only [Nat.add_sub_cancel]; omega⟩
end Go.Proofs.YtjdjncfpcbeedaaDoor
