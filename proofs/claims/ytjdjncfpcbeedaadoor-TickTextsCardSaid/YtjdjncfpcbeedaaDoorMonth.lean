/- Years and months: what the reference's isLeap, yearLong, monthLong compute. -/
import Derived.Test.YtjdjncfpcbeedaaDoorDayP
namespace Go.Proofs.YtjdjncfpcbeedaaDoor
open Go.RowKit

theorem tmod_dvd {y a b : Int} (h : y.tmod a = 0) (hd : b ∣ a) : y.tmod b = 0 := Int.tmod_eq_zero_of_dvd (Int.dvd_trans hd (Int.dvd_of_tmod_eq_zero h))
theorem isLeap_any (y : Int) (w : World) :
    Calls Tryd.prog 111 #[.int .i64 y] w fun e w' => e = .returned (.bool (leapF y)) ∧ w = w' := by
  by_cases h400 : y.tmod 400 = 0
  · have e : leapF y = true := by unfold leapF; simp [h400, tmod_dvd h400 (b := 4) (by decide)]
    rw [e]; clear e
    go_enter Tryd.func111, Tryd.ntmps111
    go_wp2
    go_ret
    exact ⟨rfl, rfl⟩
  · have b400 : (y.tmod 400 == 0) = false := by simpa using h400
    by_cases h4 : y.tmod 4 = 0
    · by_cases h1 : y.tmod 100 = 0
      · have e : leapF y = false := by unfold leapF; simp [h4, h1, h400]
        rw [e]; clear e
        go_enter Tryd.func111, Tryd.ntmps111
        go_wp2
        go_ret
        exact ⟨rfl, rfl⟩
      · have e : leapF y = true := by unfold leapF; simp [h4, h1]
        have b1 : (y.tmod 100 != 0) = true := by simpa using h1
        rw [e]; clear e
        go_enter Tryd.func111, Tryd.ntmps111
        go_wp2
        go_ret
        exact ⟨rfl, rfl⟩
    · have e : leapF y = false := by unfold leapF; simp [h4]
      have b4 : (y.tmod 4 == 0) = false := by simpa using h4
      rw [e]; clear e
      go_enter Tryd.func111, Tryd.ntmps111
      go_wp2
      go_ret
      exact ⟨rfl, rfl⟩

theorem yearLong_any (y : Int) (w : World) :
    Calls Tryd.prog 86 #[.int .i64 y] w fun e w' => e = .returned (.int .i64 (yearF y)) ∧ w = w' := by
  by_cases hl : leapF y = true
  · have e : yearF y = 366 := by unfold yearF; rw [if_pos hl]
    rw [e]; clear e
    go_enter Tryd.func86, Tryd.ntmps86
    go_wp2_with fail
    refine (isLeap_any y _).mono ?_; rintro e w1 ⟨rfl, rfl⟩
    rw [hl]
    go_wp2
    go_ret
    exact ⟨rfl, rfl⟩
  · have hl : leapF y = false := by simpa using hl
    have e : yearF y = 365 := by unfold yearF; rw [if_neg (by simp [hl])]
    rw [e]; clear e
    go_enter Tryd.func86, Tryd.ntmps86
    go_wp2_with fail
    refine (isLeap_any y _).mono ?_; rintro e w1 ⟨rfl, rfl⟩
    rw [hl]
    go_wp2
    go_ret
    exact ⟨rfl, rfl⟩

set_option maxHeartbeats 4000000 in
theorem monthLong_any (y m : Int) (m1 : 1 ≤ m) (m2 : m ≤ 12) (w : World) :
    Calls Tryd.prog 87 #[.int .i64 y, .int .i64 m] w fun e w' => e = .returned (.int .i64 (longF y m)) ∧ Below w.heap.size w w' := by
  have hm : m = 1 ∨ m = 2 ∨ m = 3 ∨ m = 4 ∨ m = 5 ∨ m = 6 ∨ m = 7 ∨ m = 8 ∨ m = 9 ∨ m = 10 ∨ m = 11 ∨ m = 12 := by omega
  clear m1 m2
  have hl : leapF y = true ∨ leapF y = false := by cases leapF y <;> simp
  rcases hl with hl | hl <;> rcases hm with rfl | rfl | rfl | rfl | rfl | rfl | rfl | rfl | rfl | rfl | rfl | rfl
  all_goals
    simp only [longF, hl]
    go_enter Tryd.func87, Tryd.ntmps87
    go_wp2_with fail
    refine (isLeap_any y _).mono ?_; rintro e w1 ⟨rfl, rfl⟩
    rw [hl]
    go_wp2
    go_ret
    exact ⟨rfl, by go_grown⟩

end Go.Proofs.YtjdjncfpcbeedaaDoor
