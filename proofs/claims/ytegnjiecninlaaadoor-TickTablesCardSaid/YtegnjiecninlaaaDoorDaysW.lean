/- The law TickDays: its walk. -/
import Derived.Test.YtegnjiecninlaaaDoorDates
import Derived.Test.YtegnjiecninlaaaDoorCoded1
namespace Go.Proofs.YtegnjiecninlaaaDoor
open Go.RowKit

theorem dayOf_60 (w : World) :
    Calls Tryd.prog 21 #[.int .i64 2000, .int .i64 3, .int .i64 1] w fun e w' => e = .returned (.tuple #[.int .i64 60, .nilIface]) ∧ w = w' := by
  have h := dayOf_ok 2000 3 1 (by decide) (by decide) (by decide) (by decide) (by decide) (by decide +kernel) w
  rw [show dayOfF 2000 3 1 = 60 by decide +kernel] at h
  exact h

/-- The program's day and the reference's, of any date. -/
theorem days_pair (ad : Nat → Addr) (y m d : Int) : ∃ (x : Int) (ev : Value) (e : Int),
    (∀ W, Sents W ad → Calls Tryd.prog 21 #[.int .i64 y, .int .i64 m, .int .i64 d] W fun e' w' => e' = .returned (.tuple #[.int .i64 x, ev]) ∧ Below W.heap.size W w') ∧
    (∀ W, Calls Tryd.prog 22 #[.int .i64 y, .int .i64 m, .int .i64 d] W fun e' w' => e' = .returned (.tuple #[.int .i64 x, .int .i64 e]) ∧ Below W.heap.size W w') ∧
    (∀ W, Sents W ad → Calls Tryd.prog 15 #[ev, .int .i64 e] W fun e' w' => e' = .returned (.bool true) ∧ Below W.heap.size W w') := by
  by_cases h : dateOk y m d
  · obtain ⟨h1, h2, h3, h4, h5, h6⟩ := h
    obtain ⟨k, rfl⟩ : ∃ k : Nat, m = k := ⟨m.toNat, by omega⟩
    refine ⟨dayOfF y k d, .nilIface, 0, fun W _ => ?_, fun W => refDayOf_ok y k d h1 h2 (by omega) (by omega) h5 h6 W, fun W _ => coded1_nil W⟩
    refine (dayOf_ok y k d h1 h2 (by omega) (by omega) h5 h6 W).mono ?_
    rintro e w' ⟨rfl, rfl⟩
    exact ⟨rfl, Below.refl _ _⟩
  · exact ⟨0, errV ad 2, 3, fun W hW => dayOf_bad ad y m d h W (hW.errs _ (by decide)), fun W => refDayOf_bad y m d h W, fun W hW => coded1_err ad 2 3 (by decide) (by decide) W hW⟩

/-- The program's date and the reference's, of any day. -/
theorem dates_pair (n : Int) : ∃ p q r : Int,
    (∀ W, Calls Tryd.prog 23 #[.int .i64 n] W fun e' w' => e' = .returned (.tuple #[.int .i64 p, .int .i64 q, .int .i64 r]) ∧ Below W.heap.size W w') ∧
    (∀ W, Calls Tryd.prog 24 #[.int .i64 n] W fun e' w' => e' = .returned (.tuple #[.int .i64 p, .int .i64 q, .int .i64 r]) ∧ Below W.heap.size W w') ∧
    ((p = 0 ∧ q = 0 ∧ r = 0 ∧ (n < -730119 ∨ 2921940 ≤ n)) ∨ ∃ k : Nat, q = (k : Int) + 1 ∧ IsDate n p (k + 1) r) := by
  by_cases h : n < -730119 ∨ 2921940 ≤ n
  · refine ⟨0, 0, 0, fun W => ?_, fun W => dateOf_out n h W, Or.inl ⟨rfl, rfl, rfl, h⟩⟩
    refine (date_out n h W).mono ?_
    rintro e w' ⟨rfl, rfl⟩
    exact ⟨rfl, Below.refl _ _⟩
  · obtain ⟨y, d, k, hd⟩ : ∃ y d : Int, ∃ k : Nat, IsDate n y (k + 1) d := isDate_exists (by omega) (by omega)
    refine ⟨y, (k : Int) + 1, d, fun W => ?_, fun W => ?_, Or.inr ⟨k, rfl, hd⟩⟩
    · refine (date_in n (by omega) (by omega) W).mono ?_
      rintro e w' ⟨⟨y', d', k', rfl, hd'⟩, rfl⟩
      obtain ⟨rfl, e2, rfl⟩ := isDate_one hd hd'
      obtain rfl : k = k' := by omega
      exact ⟨rfl, Below.refl _ _⟩
    · refine (dateOf_in n (by omega) (by omega) W).mono ?_
      rintro e w' ⟨⟨y', d', k', rfl, hd'⟩, hb⟩
      obtain ⟨rfl, e2, rfl⟩ := isDate_one hd hd'
      obtain rfl : k = k' := by omega
      exact ⟨rfl, hb⟩

theorem days_any (ad : Nat → Addr) (y m d n : Int) (w : World) (h : Sents w ad) :
    Calls Tryd.prog 5 #[.int .i64 y, .int .i64 m, .int .i64 d, .int .i64 n] w fun e w' => e = .returned (.bool true) ∧ Below w.heap.size w w' := by
  obtain ⟨x, ev, ec, D1, D2, D3⟩ := days_pair ad y m d
  obtain ⟨p, q, r, E1, E2, _⟩ := dates_pair n
  have HD1 := Lib.hid D1
  have HD2 := Lib.hid D2
  have HD3 := Lib.hid D3
  have HE1 := Lib.hid E1
  have HE2 := Lib.hid E2
  have HS := Lib.hid h
  clear D1 D2 D3 E1 E2 h
  go_enter Tryd.func5, Tryd.ntmps5
  go_wp2_with fail
  refine (dayOf_60 _).mono ?_; rintro e w1 ⟨rfl, rfl⟩
  go_wp2_with fail
  refine (HD1.out _ HS.out).mono ?_; rintro e w1 ⟨rfl, hb1⟩
  have HB1 := Lib.hid hb1
  clear hb1
  go_wp2_with fail
  refine (HD2.out _).mono ?_; rintro e w2 ⟨rfl, hb2⟩
  have HB2 := Lib.hid (below_step HB1.out hb2)
  clear hb2
  go_wp2_with fail
  refine (HD3.out _ (HS.out.below HB2.out)).mono ?_; rintro e w3 ⟨rfl, hb3⟩
  have HB3 := Lib.hid (below_step HB2.out hb3)
  clear hb3
  go_wp2_with fail
  refine (HE1.out _).mono ?_; rintro e w4 ⟨rfl, hb4⟩
  have HB4 := Lib.hid (below_step HB3.out hb4)
  clear hb4
  go_wp2_with fail
  refine (HE2.out _).mono ?_; rintro e w5 ⟨rfl, hb5⟩
  have HB5 := Lib.hid (below_step HB4.out hb5)
  clear hb5
  go_wp2
  go_ret
  exact ⟨rfl, HB5.out⟩
theorem days_law (ad : Nat → Addr) (y : Int) (_ : In64 y) (m : Int) (_ : In64 m) (d : Int) (_ : In64 d) (n : Int) (_ : In64 n) (w : World) (h : Sents w ad) :
    Calls Tryd.prog 5 #[.int .i64 y, .int .i64 m, .int .i64 d, .int .i64 n] w fun e w' => e = .returned (.bool true) ∧ Below w.heap.size w w' := days_any ad y m d n w h
end Go.Proofs.YtegnjiecninlaaaDoor
