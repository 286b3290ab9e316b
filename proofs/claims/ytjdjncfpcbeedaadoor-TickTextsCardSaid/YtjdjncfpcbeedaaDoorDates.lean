/- Dates of days: the program's Date and the reference's DateOf. -/
import Derived.Test.YtjdjncfpcbeedaaDoorDate
namespace Go.Proofs.YtjdjncfpcbeedaaDoor
open Go.RowKit

theorem ahead_e (y : Int) (h1 : 1 ≤ y) (h2 : y ≤ 10000) (w : World) :
    Calls Tryd.prog 80 #[.int .i64 y] w fun e w' => e = .returned (.int .i64 (aheadE y)) ∧ w = w' := by
  rw [← aheadE_eq h1]; exact ahead_any y h1 h2 w
theorem ahead_top (w : World) :
    Calls Tryd.prog 80 #[.int .i64 10000] w fun e w' => e = .returned (.int .i64 3652059) ∧ w = w' := by
  have := ahead_e 10000 (by decide) (by decide) w
  rwa [ahead_10000] at this

/-- What stands in the year and the month. -/
theorem date_made {n y : Int} {k : Nat} (y1 : 1 ≤ y) (y2 : y ≤ 9999) (hk : k + 1 ≤ 12) (h1 : 1 ≤ n + 730119 - aheadE y + 1 - sumLong y k) (h2 : n + 730119 - aheadE y + 1 - sumLong y k ≤ longF y ((k : Int) + 1)) :
    IsDate n y (k + 1) (n + 730119 - aheadE y + 1 - sumLong y k) := by
  refine ⟨y1, y2, by omega, hk, h1, ?_, ?_⟩
  · rw [Int.natCast_add, Int.natCast_one]; exact h2
  · simp only [Nat.add_sub_cancel]; omega

theorem date_out (n : Int) (h : n < -730119 ∨ 2921940 ≤ n) (w : World) :
    Calls Tryd.prog 50 #[.int .i64 n] w fun e w' => e = .returned (.tuple #[.int .i64 0, .int .i64 0, .int .i64 0]) ∧ w = w' := by
  by_cases c : n < -730119
  · have b : decide (n < -730119) = true := by simpa using c
    clear h
    go_enter Tryd.func50, Tryd.ntmps50
    go_wp2_with fail
    refine (first_any _).mono ?_; rintro e w1 ⟨rfl, rfl⟩
    go_wp2
    go_ret3
    exact ⟨rfl, rfl⟩
  · have b : decide (n < -730119) = false := by simpa using c
    have b2 : decide (2921940 ≤ n) = true := by simp; omega
    clear h
    go_enter Tryd.func50, Tryd.ntmps50
    go_wp2_with fail
    refine (first_any _).mono ?_; rintro e w1 ⟨rfl, rfl⟩
    go_wp2_with fail
    refine (ahead_top _).mono ?_; rintro e w1 ⟨rfl, rfl⟩
    go_wp2_with fail
    refine (first_any _).mono ?_; rintro e w1 ⟨rfl, rfl⟩
    go_wp2
    go_ret3
    exact ⟨rfl, rfl⟩

set_option maxHeartbeats 1000000 in
theorem date_in (n : Int) (n1 : -730119 ≤ n) (n2 : n < 2921940) (w : World) :
    Calls Tryd.prog 50 #[.int .i64 n] w fun e w' => (∃ y d : Int, ∃ k : Nat, e = .returned (.tuple #[.int .i64 y, .int .i64 ((k : Int) + 1), .int .i64 d]) ∧ IsDate n y (k + 1) d) ∧ w = w' := by
  have b : decide (n < -730119) = false := by simp; omega
  have b2 : decide (2921940 ≤ n) = false := by simp; omega
  go_enter Tryd.func50, Tryd.ntmps50
  go_wp2_with fail
  refine (first_any _).mono ?_; rintro e w1 ⟨rfl, rfl⟩
  go_wp2_with fail
  refine (ahead_top _).mono ?_; rintro e w1 ⟨rfl, rfl⟩
  go_wp2_with fail
  refine (first_any _).mono ?_; rintro e w1 ⟨rfl, rfl⟩
  go_wp2_with fail
  refine (first_any _).mono ?_; rintro e w1 ⟨rfl, rfl⟩
  go_wp2
  go_loopw [2] (fun v wr => ∃ y : Int, 1 ≤ y ∧ y ≤ 9999 ∧ v = .int .i64 y ∧ aheadE y ≤ n + 730119 ∧ w = wr) (fun v _ => (9999 - intOf v).toNat)
  case atStart =>
    refine ⟨(n + 730119) / 366 + 1, by omega, by omega, rfl, ?_, rfl⟩
    unfold aheadE; omega
  case round =>
    obtain ⟨y, y1, y2, rfl, ha, rfl⟩ := hrel
    by_cases c : y < 9999 ∧ aheadE (y + 1) ≤ n + 730119
    · obtain ⟨c1, c2⟩ := c
      go_wp2_with fail
      refine (ahead_e (y + 1) (by omega) (by omega) _).mono ?_; rintro e w1 ⟨rfl, rfl⟩
      go_wp2
      go_roundw
      case rel => exact ⟨y + 1, by omega, by omega, rfl, c2, by simp⟩
      case measure => simp [intOf]; omega
    · have hlt : n + 730119 < aheadE (y + 1) := by
        rcases Int.lt_or_le y 9999 with c1 | c1
        · omega
        · obtain rfl : y = 9999 := by omega
          have := ahead_10000
          rw [show (9999 : Int) + 1 = 10000 by decide]; omega
      have hst := ahead_step (show 0 ≤ y by omega)
      have key : (decide (y < 9999) = true ∧ decide (aheadE (y + 1) ≤ n + 730119) = false) ∨ decide (y < 9999) = false := by
        rcases Int.lt_or_le y 9999 with c1 | c1
        · exact Or.inl ⟨by simpa using c1, by simp; omega⟩
        · exact Or.inr (by simp; omega)
      have hr1 := ahead_rng (show 0 ≤ y + 1 by omega) (by omega)
      have HST := Lib.hid hst
      have HLT := Lib.hid hlt
      clear c hst hlt
      rcases key with ⟨b1, b2⟩ | b1
      · go_wp2_with fail
        refine (ahead_e (y + 1) (by omega) (by omega) _).mono ?_; rintro e w1 ⟨rfl, rfl⟩
        clear hr1
        go_wp2_with fail
        refine (ahead_e y y1 (by omega) _).mono ?_; rintro e w1 ⟨rfl, rfl⟩
        have hr := ahead_rng (show 0 ≤ y by omega) (by omega)
        go_wp2
        go_loopw [3, 4] (fun mv dv wr => ∃ k : Nat, k + 1 ≤ 12 ∧ mv = .int .i64 ((k : Int) + 1) ∧ dv = .int .i64 (n + 730119 - aheadE y + 1 - sumLong y k) ∧ 1 ≤ n + 730119 - aheadE y + 1 - sumLong y k ∧ w = wr) (fun mv _ _ => (12 - intOf mv).toNat)
        case atStart => exact ⟨0, by omega, rfl, by rw [sumLong, Int.sub_zero], by rw [sumLong]; omega, rfl⟩
        case round =>
          obtain ⟨k, hk, rfl, rfl, hd, rfl⟩ := hrel
          have hs := sumLong_bd y k
          have hlk := long_bd y ((k : Int) + 1)
          by_cases c : longF y ((k : Int) + 1) < n + 730119 - aheadE y + 1 - sumLong y k
          · have hm : k + 2 ≤ 12 := month_more (y := y) (r := n + 730119 - aheadE y) hk (by have := HST.out; have := HLT.out; omega) (by omega)
            have HE := Lib.hid (show sumLong y (k + 1) = sumLong y k + longF y ((k : Int) + 1) from rfl)
            go_wp2_with fail
            refine (long_any y _ _).mono ?_; rintro e w1 ⟨rfl, rfl⟩
            go_wp2_with fail
            refine (long_any y _ _).mono ?_; rintro e w1 ⟨rfl, rfl⟩
            go_wp2
            go_roundw
            case rel => exact ⟨k + 1, by omega, by go_num, by rw [HE.out]; go_num, by rw [HE.out]; omega, by simp⟩
            case measure => simp [intOf]; omega
          · have HD := Lib.hid (date_made y1 y2 hk hd (by omega))
            go_wp2_with fail
            refine (long_any y _ _).mono ?_; rintro e w1 ⟨rfl, rfl⟩
            go_wp2
            go_ret3
            exact ⟨⟨y, _, k, rfl, HD.out⟩, rfl⟩
      · clear hr1
        go_wp2_with fail
        refine (ahead_e y y1 (by omega) _).mono ?_; rintro e w1 ⟨rfl, rfl⟩
        have hr := ahead_rng (show 0 ≤ y by omega) (by omega)
        go_wp2
        go_loopw [3, 4] (fun mv dv wr => ∃ k : Nat, k + 1 ≤ 12 ∧ mv = .int .i64 ((k : Int) + 1) ∧ dv = .int .i64 (n + 730119 - aheadE y + 1 - sumLong y k) ∧ 1 ≤ n + 730119 - aheadE y + 1 - sumLong y k ∧ w = wr) (fun mv _ _ => (12 - intOf mv).toNat)
        case atStart => exact ⟨0, by omega, rfl, by rw [sumLong, Int.sub_zero], by rw [sumLong]; omega, rfl⟩
        case round =>
          obtain ⟨k, hk, rfl, rfl, hd, rfl⟩ := hrel
          have hs := sumLong_bd y k
          have hlk := long_bd y ((k : Int) + 1)
          by_cases c : longF y ((k : Int) + 1) < n + 730119 - aheadE y + 1 - sumLong y k
          · have hm : k + 2 ≤ 12 := month_more (y := y) (r := n + 730119 - aheadE y) hk (by have := HST.out; have := HLT.out; omega) (by omega)
            have HE := Lib.hid (show sumLong y (k + 1) = sumLong y k + longF y ((k : Int) + 1) from rfl)
            go_wp2_with fail
            refine (long_any y _ _).mono ?_; rintro e w1 ⟨rfl, rfl⟩
            go_wp2_with fail
            refine (long_any y _ _).mono ?_; rintro e w1 ⟨rfl, rfl⟩
            go_wp2
            go_roundw
            case rel => exact ⟨k + 1, by omega, by go_num, by rw [HE.out]; go_num, by rw [HE.out]; omega, by simp⟩
            case measure => simp [intOf]; omega
          · have HD := Lib.hid (date_made y1 y2 hk hd (by omega))
            go_wp2_with fail
            refine (long_any y _ _).mono ?_; rintro e w1 ⟨rfl, rfl⟩
            go_wp2
            go_ret3
            exact ⟨⟨y, _, k, rfl, HD.out⟩, rfl⟩

theorem dateOf_out (n : Int) (h : n < -730119 ∨ 2921940 ≤ n) (w : World) :
    Calls Tryd.prog 53 #[.int .i64 n] w fun e w' => e = .returned (.tuple #[.int .i64 0, .int .i64 0, .int .i64 0]) ∧ Below w.heap.size w w' := by
  by_cases c : n < -730119
  · clear h
    go_enter Tryd.func53, Tryd.ntmps53
    go_wp2
    go_ret3
    exact ⟨rfl, Below.refl _ _⟩
  · have c2 : 2921939 < n := by omega
    clear h
    go_enter Tryd.func53, Tryd.ntmps53
    go_wp2
    go_ret3
    exact ⟨rfl, Below.refl _ _⟩

set_option maxHeartbeats 1000000 in
theorem dateOf_in (n : Int) (n1 : -730119 ≤ n) (n2 : n < 2921940) (w : World) :
    Calls Tryd.prog 53 #[.int .i64 n] w fun e w' => (∃ y d : Int, ∃ k : Nat, e = .returned (.tuple #[.int .i64 y, .int .i64 ((k : Int) + 1), .int .i64 d]) ∧ IsDate n y (k + 1) d) ∧ Below w.heap.size w w' := by
  go_enter Tryd.func53, Tryd.ntmps53
  go_wp2
  go_loopw [5, 6] (fun rv v wr => ∃ y r : Int, 0 ≤ y ∧ 0 ≤ r ∧ v = .int .i64 y ∧ rv = .int .i64 r ∧ Hid (aheadE y - 730119 + r = n) ∧ Hid (Below w.heap.size w wr)) (fun rv _ _ => (intOf rv).toNat)
  case atStart =>
    refine ⟨(n + 730485) / 146097 * 400, (n + 730485) % 146097, by omega, by omega, rfl, rfl, Lib.hid ?_, Lib.hid (Below.refl _ _)⟩
    rw [ahead_400]; omega
  case round =>
    obtain ⟨y, r, y0, r0, rfl, rfl, hn, hb⟩ := hrel
    have hy := year_bd y
    have hg := ahead_ge y0
    have hn' := hn.out
    have y3 : y ≤ 10010 := by omega
    have r3 : r ≤ 4000000 := by omega
    have HST := Lib.hid (ahead_step y0)
    clear hg hn'
    by_cases c : yearF y ≤ r
    · go_wp2_with fail
      refine (yearLong_any y _).mono ?_; rintro e w1 ⟨rfl, rfl⟩
      go_wp2_with fail
      refine (yearLong_any y _).mono ?_; rintro e w1 ⟨rfl, rfl⟩
      go_wp2
      go_roundw
      case rel => exact ⟨y + 1, r - yearF y, by omega, by omega, rfl, rfl, Lib.hid (by have := HST.out; have := hn.out; omega), hb⟩
      case measure => simp [intOf]; omega
    · have hyy : 1 ≤ y ∧ y ≤ 9999 := by
        have h1 := HST.out
        have h2 := hn.out
        refine ⟨?_, ?_⟩
        · rcases Int.lt_or_le y 1 with c1 | c1
          · obtain rfl : y = 0 := by omega
            have := ahead_1
            rw [show (0 : Int) + 1 = 1 by decide] at h1
            omega
          · exact c1
        · rcases Int.lt_or_le 9999 y with c1 | c1
          · have := ahead_le (show (10000 : Int) ≤ y by omega)
            have := ahead_10000
            omega
          · exact c1
      obtain ⟨y1, y2⟩ := hyy
      have hr : r = n + 730119 - aheadE y := by have := hn.out; omega
      subst hr
      clear hn
      go_wp2_with fail
      refine (yearLong_any y _).mono ?_; rintro e w1 ⟨rfl, rfl⟩
      have hra := ahead_rng (show 0 ≤ y by omega) (by omega)
      go_wp2
      go_loopw [5, 7] (fun rv mv wr => ∃ k : Nat, k + 1 ≤ 12 ∧ mv = .int .i64 ((k : Int) + 1) ∧ rv = .int .i64 (n + 730119 - aheadE y - sumLong y k) ∧ 0 ≤ n + 730119 - aheadE y - sumLong y k ∧ Hid (Below w.heap.size w wr)) (fun _ mv _ => (12 - intOf mv).toNat)
      case atStart => exact ⟨0, by omega, rfl, by rw [sumLong, Int.sub_zero], by rw [sumLong]; omega, hb⟩
      case round =>
        clear hb
        obtain ⟨k, hk, rfl, rfl, hd, hb⟩ := hrel
        have hs := sumLong_bd y k
        have hlk := long_bd y ((k : Int) + 1)
        by_cases c : longF y ((k : Int) + 1) ≤ n + 730119 - aheadE y - sumLong y k
        · have hm : k + 2 ≤ 12 := month_more (y := y) (r := n + 730119 - aheadE y) hk (by omega) (by omega)
          have HE := Lib.hid (show sumLong y (k + 1) = sumLong y k + longF y ((k : Int) + 1) from rfl)
          go_wp2_with fail
          refine (monthLong_any y _ (by omega) (by omega) _).mono ?_; rintro e w1 ⟨rfl, hb1⟩
          have hb1' := below_step hb.out hb1
          clear hb1
          go_wp2_with fail
          refine (monthLong_any y _ (by omega) (by omega) _).mono ?_; rintro e w2 ⟨rfl, hb2⟩
          have HB2 := Lib.hid (below_step hb1' hb2)
          clear hb1' hb2
          go_wp2
          go_roundw
          case rel => exact ⟨k + 1, by omega, by go_num, by rw [HE.out]; go_num, by rw [HE.out]; omega, HB2⟩
          case measure => simp [intOf]; omega
        · have HD := Lib.hid (date_made y1 y2 hk (show 1 ≤ n + 730119 - aheadE y + 1 - sumLong y k by omega) (by omega))
          have e1 : n + 730119 - aheadE y - sumLong y k + 1 = n + 730119 - aheadE y + 1 - sumLong y k := by omega
          have HE1 := Lib.hid e1
          clear e1
          go_wp2_with fail
          refine (monthLong_any y _ (by omega) (by omega) _).mono ?_; rintro e w1 ⟨rfl, hb1⟩
          have HB2 := Lib.hid (below_step hb.out hb1)
          clear hb1
          go_wp2
          go_ret3
          exact ⟨⟨y, _, k, rfl, by rw [HE1.out]; exact HD.out⟩, HB2.out⟩
end Go.Proofs.YtjdjncfpcbeedaaDoor
