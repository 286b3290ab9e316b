/- Days of dates: the reference's DayOf; both of a date that is none. -/
import Derived.Test.YtjdjncfpcbeedaaDoorMonth
namespace Go.Proofs.YtjdjncfpcbeedaaDoor
open Go.RowKit

theorem ahead_rng {y : Int} (h1 : 0 ≤ y) (h2 : y ≤ 10000) : -400 ≤ aheadE y ∧ aheadE y ≤ 4000000 := by unfold aheadE; omega
theorem ahead_400s {k : Int} (h : k % 400 = 0) : aheadE (k + 400) = aheadE k + 146097 := by unfold aheadE; omega

set_option maxHeartbeats 1000000 in
theorem refDayOf_ok (y : Int) (m : Nat) (d : Int) (y1 : 1 ≤ y) (y2 : y ≤ 9999) (m1 : 1 ≤ m) (m2 : m ≤ 12) (d1 : 1 ≤ d) (d2 : d ≤ longF y m) (w : World) :
    Calls Tryd.prog 59 #[.int .i64 y, .int .i64 m, .int .i64 d] w fun e w' => e = .returned (.tuple #[.int .i64 (dayOfF y m d), .int .i64 0]) ∧ Below w.heap.size w w' := by
  have hlb := long_bd y m
  have b1 : decide (y < 1) = false := by simp; omega
  have b2 : decide (9999 < y) = false := by simp; omega
  have b3 : decide ((m : Int) < 1) = false := by simp; omega
  have b4 : decide (12 < (m : Int)) = false := by simp; omega
  have b5 : decide (d < 1) = false := by simp; omega
  have b6 : decide (longF y m < d) = false := by simp; omega
  have HF := Lib.hid (show aheadE y = aheadF y from (aheadE_eq y1).symm)
  go_enter Tryd.func59, Tryd.ntmps59
  go_wp2_with fail
  refine (monthLong_any y m (by omega) (by omega) _).mono ?_; rintro e w1 ⟨rfl, hb1⟩
  have HB := Lib.hid hb1
  clear hb1
  go_wp2
  go_loopw [8, 9] (fun n i wr => ∃ k : Int, 0 ≤ k ∧ k ≤ y ∧ k % 400 = 0 ∧ i = .int .i64 k ∧ n = .int .i64 (aheadE k - 730119) ∧ Hid (Below w.heap.size w wr)) (fun _ i _ => (10000 - intOf i).toNat)
  case atStart => exact ⟨0, by omega, by omega, by omega, rfl, by rw [show aheadE 0 - 730119 = -730485 by decide], HB⟩
  case round =>
    obtain ⟨k, k0, ky, k4, rfl, rfl, hb⟩ := hrel
    have ha := ahead_rng k0 (by omega)
    clear HB
    by_cases c : k + 400 ≤ y
    · have HA := Lib.hid (ahead_400s k4)
      go_wp2
      go_roundw
      case rel => exact ⟨k + 400, by omega, by omega, by omega, rfl, by rw [HA.out]; go_num, hb⟩
      case measure => simp [intOf]; omega
    · clear k4
      go_wp2
      go_loopw [8, 9] (fun n i wr => ∃ k : Int, 0 ≤ k ∧ k ≤ y ∧ i = .int .i64 k ∧ n = .int .i64 (aheadE k - 730119) ∧ Hid (Below w.heap.size w wr)) (fun _ i _ => (10000 - intOf i).toNat)
      case atStart => exact ⟨k, k0, ky, rfl, rfl, hb⟩
      case round =>
        clear ha k0 ky hb
        obtain ⟨k, k0, ky, rfl, rfl, hb⟩ := hrel
        have ha := ahead_rng k0 (by omega)
        by_cases c : k < y
        · have HA := Lib.hid (ahead_step k0)
          have hy := year_bd k
          go_wp2_with fail
          refine (yearLong_any k _).mono ?_; rintro e w2 ⟨rfl, rfl⟩
          go_wp2
          go_roundw
          case rel => exact ⟨k + 1, by omega, by omega, rfl, by rw [HA.out]; go_num, hb⟩
          case measure => simp [intOf]; omega
        · obtain rfl : y = k := by omega
          clear ky
          go_wp2
          go_loopw [8, 9] (fun n i wr => ∃ k : Nat, k + 1 ≤ m ∧ i = .int .i64 ((k : Int) + 1) ∧ n = .int .i64 (aheadE y - 730119 + sumLong y k) ∧ Hid (Below w.heap.size w wr)) (fun _ i _ => m - (intOf i).toNat)
          case atStart => exact ⟨0, by omega, rfl, by rw [sumLong, Int.add_zero], hb⟩
          case round =>
            clear hb
            obtain ⟨k, hk, rfl, rfl, hb⟩ := hrel
            have hs := sumLong_bd y k
            by_cases hlt : k + 1 < m
            · have hlk := long_bd y ((k : Int) + 1)
              have HE := Lib.hid (show sumLong y (k + 1) = sumLong y k + longF y ((k : Int) + 1) from rfl)
              go_wp2_with fail
              refine (monthLong_any y _ (by omega) (by omega) _).mono ?_; rintro e w2 ⟨rfl, hb2⟩
              have HB2 := Lib.hid (below_step hb.out hb2)
              clear hb2 hb
              go_wp2
              go_roundw
              case rel => exact ⟨k + 1, by omega, by go_num, by rw [HE.out, Int.add_assoc], HB2⟩
              case measure => simp [intOf]; omega
            · obtain rfl : m = k + 1 := by omega
              have e : dayOfF y (k + 1) d = aheadE y - 730119 + sumLong y k + d - 1 := by rw [HF.out]; rfl
              have HE := Lib.hid e
              clear e
              go_wp2
              go_ret2
              exact ⟨by rw [HE.out]; rfl, hb.out⟩

/-- A date that is one. -/
def dateOk (y m d : Int) : Prop := 1 ≤ y ∧ y ≤ 9999 ∧ 1 ≤ m ∧ m ≤ 12 ∧ 1 ≤ d ∧ d ≤ longF y m
theorem refDayOf_bad (y m d : Int) (h : ¬ dateOk y m d) (w : World) :
    Calls Tryd.prog 59 #[.int .i64 y, .int .i64 m, .int .i64 d] w fun e w' => e = .returned (.tuple #[.int .i64 0, .int .i64 3]) ∧ Below w.heap.size w w' := by
  unfold dateOk at h
  by_cases c1 : y < 1
  · clear h
    go_enter Tryd.func59, Tryd.ntmps59
    go_wp2
    go_ret2
    exact ⟨rfl, Below.refl _ _⟩
  by_cases c2 : 9999 < y
  · clear h
    go_enter Tryd.func59, Tryd.ntmps59
    go_wp2
    go_ret2
    exact ⟨rfl, Below.refl _ _⟩
  by_cases c3 : m < 1
  · clear h
    go_enter Tryd.func59, Tryd.ntmps59
    go_wp2
    go_ret2
    exact ⟨rfl, Below.refl _ _⟩
  by_cases c4 : 12 < m
  · clear h
    go_enter Tryd.func59, Tryd.ntmps59
    go_wp2
    go_ret2
    exact ⟨rfl, Below.refl _ _⟩
  by_cases c5 : d < 1
  · clear h
    go_enter Tryd.func59, Tryd.ntmps59
    go_wp2
    go_ret2
    exact ⟨rfl, Below.refl _ _⟩
  have c6 : longF y m < d := by omega
  have b6 : decide (longF y m < d) = true := by simpa using c6
  clear h
  go_enter Tryd.func59, Tryd.ntmps59
  go_wp2_with fail
  refine (monthLong_any y m (by omega) (by omega) _).mono ?_; rintro e w1 ⟨rfl, hb1⟩
  go_wp2
  go_ret2
  exact ⟨rfl, hb1⟩

theorem dayOf_bad (ad : Nat → Addr) (y m d : Int) (h : ¬ dateOk y m d) (w : World) (he : Errs w ad [2]) :
    Calls Tryd.prog 56 #[.int .i64 y, .int .i64 m, .int .i64 d] w fun e w' => e = .returned (.tuple #[.int .i64 0, errV ad 2]) ∧ Below w.heap.size w w' := by
  have g2 : w.cell? ⟨2, 0, none⟩ = some (.iface 225 (.pointer (some (ad 2)))) := he 2 (by decide)
  clear he
  unfold dateOk at h
  unfold errV
  by_cases c1 : y < 1
  · clear h
    go_enter Tryd.func56, Tryd.ntmps56
    go_wp2
    go_quiet (fail)
    go_wp2
    go_ret2
    exact ⟨rfl, below_drewN (Below.refl _ _) _⟩
  by_cases c2 : 9999 < y
  · clear h
    go_enter Tryd.func56, Tryd.ntmps56
    go_wp2
    go_quiet (fail)
    go_wp2
    go_ret2
    exact ⟨rfl, below_drewN (Below.refl _ _) _⟩
  by_cases c3 : m < 1
  · clear h
    go_enter Tryd.func56, Tryd.ntmps56
    go_wp2
    go_quiet (fail)
    go_wp2
    go_ret2
    exact ⟨rfl, below_drewN (Below.refl _ _) _⟩
  by_cases c4 : 12 < m
  · clear h
    go_enter Tryd.func56, Tryd.ntmps56
    go_wp2
    go_quiet (fail)
    go_wp2
    go_ret2
    exact ⟨rfl, below_drewN (Below.refl _ _) _⟩
  by_cases c5 : d < 1
  · clear h
    go_enter Tryd.func56, Tryd.ntmps56
    go_wp2
    go_quiet (fail)
    go_wp2
    go_ret2
    exact ⟨rfl, below_drewN (Below.refl _ _) _⟩
  have c6 : longF y m < d := by omega
  have b6 : decide (longF y m < d) = true := by simpa using c6
  clear h
  go_enter Tryd.func56, Tryd.ntmps56
  go_wp2_with fail
  refine (long_any y m _).mono ?_; rintro e w1 ⟨rfl, rfl⟩
  go_wp2
  go_quiet (fail)
  go_wp2
  go_ret2
  exact ⟨rfl, below_drewN (Below.refl _ _) _⟩
end Go.Proofs.YtjdjncfpcbeedaaDoor
