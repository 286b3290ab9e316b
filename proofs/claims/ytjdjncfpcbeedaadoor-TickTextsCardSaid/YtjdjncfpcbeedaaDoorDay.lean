/- Days of dates: what tick.DayOf computes of a date. -/
import Derived.Test.YtjdjncfpcbeedaaDoorTab
namespace Go.Proofs.YtjdjncfpcbeedaaDoor
open Go.RowKit

def leapF (y : Int) : Bool := (y.tmod 4 == 0) && ((!(y.tmod 100 == 0)) || (y.tmod 400 == 0))
theorem leap_any (y : Int) (w : World) :
    Calls Tryd.prog 103 #[.int .i64 y] w fun e w' => e = .returned (.bool (leapF y)) ∧ w = w' := by
  by_cases h4 : y.tmod 4 = 0
  · by_cases h1 : y.tmod 100 = 0
    · by_cases h400 : y.tmod 400 = 0
      · have e : leapF y = true := by unfold leapF; simp [h4, h1, h400]
        rw [e]; clear e
        go_enter Tryd.func103, Tryd.ntmps103
        go_wp2
        go_ret
        exact ⟨rfl, rfl⟩
      · have e : leapF y = false := by unfold leapF; simp [h4, h1, h400]
        have b400 : (y.tmod 400 == 0) = false := by simpa using h400
        rw [e]; clear e
        go_enter Tryd.func103, Tryd.ntmps103
        go_wp2
        go_ret
        exact ⟨rfl, rfl⟩
    · have e : leapF y = true := by unfold leapF; simp [h4, h1]
      rw [e]; clear e
      go_enter Tryd.func103, Tryd.ntmps103
      go_wp2
      go_ret
      exact ⟨rfl, rfl⟩
  · have e : leapF y = false := by unfold leapF; simp [h4]
    rw [e]; clear e
    go_enter Tryd.func103, Tryd.ntmps103
    go_wp2
    go_ret
    exact ⟨rfl, rfl⟩

def aheadF (y : Int) : Int := 365 * (y - 1) + (y - 1).tdiv 4 - (y - 1).tdiv 100 + (y - 1).tdiv 400
theorem ahead_any (y : Int) (h1 : 1 ≤ y) (h2 : y ≤ 10000) (w : World) :
    Calls Tryd.prog 80 #[.int .i64 y] w fun e w' => e = .returned (.int .i64 (aheadF y)) ∧ w = w' := by
  have a1 := Int.tdiv_eq_ediv_of_nonneg (a := y - 1) (b := 4) (by omega)
  have a2 := Int.tdiv_eq_ediv_of_nonneg (a := y - 1) (b := 100) (by omega)
  have a3 := Int.tdiv_eq_ediv_of_nonneg (a := y - 1) (b := 400) (by omega)
  have e : aheadF y = 365 * (y - 1) + (y - 1) / 4 - (y - 1) / 100 + (y - 1) / 400 := by unfold aheadF; rw [a1, a2, a3]
  rw [e]; clear e
  go_enter Tryd.func80, Tryd.ntmps80
  go_wp2
  go_ret
  exact ⟨rfl, rfl⟩

theorem first_any (w : World) :
    Calls Tryd.prog 79 #[] w fun e w' => e = .returned (.int .i64 730119) ∧ w = w' := by
  have e : aheadF 2000 = 730119 := by decide
  go_enter Tryd.func79, Tryd.ntmps79
  go_wp2_with fail
  refine (ahead_any 2000 (by decide) (by decide) _).mono ?_; rintro e w1 ⟨rfl, rfl⟩
  rw [e]
  go_wp2
  go_ret
  exact ⟨rfl, rfl⟩

def longF (y m : Int) : Int := if m = 4 ∨ m = 6 ∨ m = 9 ∨ m = 11 then 30 else if m = 2 then (if leapF y then 29 else 28) else 31
theorem long_any (y m : Int) (w : World) :
    Calls Tryd.prog 81 #[.int .i64 y, .int .i64 m] w fun e w' => e = .returned (.int .i64 (longF y m)) ∧ w = w' := by
  by_cases c4 : m = 4
  · have e : longF y m = 30 := by unfold longF; rw [if_pos (by omega)]
    rw [e]; clear e; subst c4
    go_enter Tryd.func81, Tryd.ntmps81
    go_wp2
    go_ret
    exact ⟨rfl, rfl⟩
  by_cases c6 : m = 6
  · have e : longF y m = 30 := by unfold longF; rw [if_pos (by omega)]
    rw [e]; clear e; subst c6
    go_enter Tryd.func81, Tryd.ntmps81
    go_wp2
    go_ret
    exact ⟨rfl, rfl⟩
  by_cases c9 : m = 9
  · have e : longF y m = 30 := by unfold longF; rw [if_pos (by omega)]
    rw [e]; clear e; subst c9
    go_enter Tryd.func81, Tryd.ntmps81
    go_wp2
    go_ret
    exact ⟨rfl, rfl⟩
  by_cases c11 : m = 11
  · have e : longF y m = 30 := by unfold longF; rw [if_pos (by omega)]
    rw [e]; clear e; subst c11
    go_enter Tryd.func81, Tryd.ntmps81
    go_wp2
    go_ret
    exact ⟨rfl, rfl⟩
  by_cases c2 : m = 2
  · by_cases hl : leapF y = true
    · have e : longF y m = 29 := by unfold longF; rw [if_neg (by omega), if_pos c2, if_pos hl]
      rw [e]; clear e; subst c2
      go_enter Tryd.func81, Tryd.ntmps81
      go_wp2_with fail
      refine (leap_any y _).mono ?_; rintro e w1 ⟨rfl, rfl⟩
      rw [hl]
      go_wp2
      go_ret
      exact ⟨rfl, rfl⟩
    · have hl : leapF y = false := by simpa using hl
      have e : longF y m = 28 := by unfold longF; rw [if_neg (by omega), if_pos c2, if_neg (by simp [hl])]
      rw [e]; clear e; subst c2
      go_enter Tryd.func81, Tryd.ntmps81
      go_wp2_with fail
      refine (leap_any y _).mono ?_; rintro e w1 ⟨rfl, rfl⟩
      rw [hl]
      go_wp2
      go_ret
      exact ⟨rfl, rfl⟩
  have e : longF y m = 31 := by unfold longF; rw [if_neg (by omega), if_neg c2]
  have b4 : (m == 4) = false := by simpa using c4
  have b6 : (m == 6) = false := by simpa using c6
  have b9 : (m == 9) = false := by simpa using c9
  have b11 : (m == 11) = false := by simpa using c11
  have b2 : (m == 2) = false := by simpa using c2
  rw [e]; clear e
  go_enter Tryd.func81, Tryd.ntmps81
  go_wp2
  go_ret
  exact ⟨rfl, rfl⟩

theorem long_bd (y m : Int) : 28 ≤ longF y m ∧ longF y m ≤ 31 := by
  unfold longF
  repeat' split
  all_goals omega

/-- The days of the first k months. -/
def sumLong (y : Int) : Nat → Int
  | 0 => 0
  | k + 1 => sumLong y k + longF y ((k : Int) + 1)
theorem sumLong_bd (y : Int) (k : Nat) : 0 ≤ sumLong y k ∧ sumLong y k ≤ 31 * k := by
  induction k with
  | zero => unfold sumLong; omega
  | succ k ih =>
    have := long_bd y ((k : Int) + 1)
    unfold sumLong; omega
def dayOfF (y : Int) (m : Nat) (d : Int) : Int := aheadF y - 730119 + sumLong y (m - 1) + d - 1
theorem ahead_bd (y : Int) (h1 : 1 ≤ y) (h2 : y ≤ 10000) : 0 ≤ aheadF y ∧ aheadF y ≤ 4000000 := by
  unfold aheadF
  rw [Int.tdiv_eq_ediv_of_nonneg (a := y - 1) (b := 4) (by omega), Int.tdiv_eq_ediv_of_nonneg (a := y - 1) (b := 100) (by omega), Int.tdiv_eq_ediv_of_nonneg (a := y - 1) (b := 400) (by omega)]
  omega

theorem dayOf_ok (y : Int) (m : Nat) (d : Int) (y1 : 1 ≤ y) (y2 : y ≤ 9999) (m1 : 1 ≤ m) (m2 : m ≤ 12) (d1 : 1 ≤ d) (d2 : d ≤ longF y m) (w : World) :
    Calls Tryd.prog 56 #[.int .i64 y, .int .i64 m, .int .i64 d] w fun e w' => e = .returned (.tuple #[.int .i64 (dayOfF y m d), .nilIface]) ∧ w = w' := by
  have hlb := long_bd y m
  have ha := ahead_bd y y1 (by omega)
  have b1 : decide (y < 1) = false := by simp; omega
  have b2 : decide (9999 < y) = false := by simp; omega
  have b3 : decide ((m : Int) < 1) = false := by simp; omega
  have b4 : decide (12 < (m : Int)) = false := by simp; omega
  have b5 : decide (d < 1) = false := by simp; omega
  have b6 : decide (longF y m < d) = false := by simp; omega
  go_enter Tryd.func56, Tryd.ntmps56
  go_wp2_with fail
  refine (long_any y m _).mono ?_; rintro e w1 ⟨rfl, rfl⟩
  go_wp2_with fail
  refine (ahead_any y y1 (by omega) _).mono ?_; rintro e w1 ⟨rfl, rfl⟩
  go_wp2_with fail
  refine (first_any _).mono ?_; rintro e w1 ⟨rfl, rfl⟩
  go_wp2
  go_loopw [8, 42] (fun n i wr => ∃ k : Nat, k + 1 ≤ m ∧ i = .int .i64 k ∧ n = .int .i64 (aheadF y - 730119 + sumLong y k) ∧ w = wr) (fun _ i _ => m - (intOf i).toNat)
  case atStart => exact ⟨0, by omega, rfl, by rw [sumLong, Int.add_zero], by simp⟩
  case round =>
    obtain ⟨k, hk, rfl, rfl, rfl⟩ := hrel
    have hs := sumLong_bd y k
    by_cases hlt : k + 1 < m
    · have hlk := long_bd y ((k : Int) + 1)
      have e : sumLong y (k + 1) = sumLong y k + longF y ((k : Int) + 1) := rfl
      have HE := Lib.hid e
      clear e
      go_wp2_with fail
      refine (long_any y _ _).mono ?_; rintro e w1 ⟨rfl, rfl⟩
      go_wp2
      go_roundw
      case rel => exact ⟨k + 1, by omega, by go_num, by rw [HE.out, Int.add_assoc], by simp⟩
      case measure => simp [intOf]; omega
    · obtain rfl : m = k + 1 := by omega
      have e : dayOfF y (k + 1) d = aheadF y - 730119 + sumLong y k + d - 1 := rfl
      rw [e] at *
      clear e
      go_wp2
      go_ret2
      exact ⟨rfl, rfl⟩
end Go.Proofs.YtjdjncfpcbeedaaDoor
