/- Days and dates of both sides (XDaysW's first part). -/
import Derived.Test.YtjdjncfpcbeedaaDoorDates
import Derived.Test.YtjdjncfpcbeedaaDoorCoded1
namespace Go.Proofs.YtjdjncfpcbeedaaDoor
open Go.RowKit

theorem dayOf_60 (w : World) :
    Calls Tryd.prog 56 #[.int .i64 2000, .int .i64 3, .int .i64 1] w fun e w' => e = .returned (.tuple #[.int .i64 60, .nilIface]) ∧ w = w' := by
  have h := dayOf_ok 2000 3 1 (by decide) (by decide) (by decide) (by decide) (by decide) (by decide +kernel) w
  rw [show dayOfF 2000 3 1 = 60 by decide +kernel] at h
  exact h

/-- The program's day and the reference's, of any date. -/
theorem days_pair (ad : Nat → Addr) (y m d : Int) : ∃ (x : Int) (ev : Value) (e : Int),
    (∀ W, Sents W ad → Calls Tryd.prog 56 #[.int .i64 y, .int .i64 m, .int .i64 d] W fun e' w' => e' = .returned (.tuple #[.int .i64 x, ev]) ∧ Below W.heap.size W w') ∧
    (∀ W, Calls Tryd.prog 59 #[.int .i64 y, .int .i64 m, .int .i64 d] W fun e' w' => e' = .returned (.tuple #[.int .i64 x, .int .i64 e]) ∧ Below W.heap.size W w') ∧
    (∀ W, Sents W ad → Calls Tryd.prog 24 #[ev, .int .i64 e] W fun e' w' => e' = .returned (.bool true) ∧ Below W.heap.size W w') := by
  by_cases h : dateOk y m d
  · obtain ⟨h1, h2, h3, h4, h5, h6⟩ := h
    obtain ⟨k, rfl⟩ : ∃ k : Nat, m = k := ⟨m.toNat, by omega⟩
    refine ⟨dayOfF y k d, .nilIface, 0, fun W _ => ?_, fun W => refDayOf_ok y k d h1 h2 (by omega) (by omega) h5 h6 W, fun W _ => coded1_nil W⟩
    refine (dayOf_ok y k d h1 h2 (by omega) (by omega) h5 h6 W).mono ?_
    rintro e w' ⟨rfl, rfl⟩
    exact ⟨rfl, Below.refl _ _⟩
  · exact ⟨0, errV ad 2, 3, fun W hW => dayOf_bad ad y m d h W (hW.errs _ (by decide)), fun W => refDayOf_bad y m d h W, fun W hW => coded1_err ad 2 3 (by decide) (by decide) W hW⟩

/-- The program's date and the reference's, of any day. -/
theorem dates_pair (n : Int) : ∃ p q r : Int,
    (∀ W, Calls Tryd.prog 50 #[.int .i64 n] W fun e' w' => e' = .returned (.tuple #[.int .i64 p, .int .i64 q, .int .i64 r]) ∧ Below W.heap.size W w') ∧
    (∀ W, Calls Tryd.prog 53 #[.int .i64 n] W fun e' w' => e' = .returned (.tuple #[.int .i64 p, .int .i64 q, .int .i64 r]) ∧ Below W.heap.size W w') ∧
    ((p = 0 ∧ q = 0 ∧ r = 0 ∧ (n < -730119 ∨ 2921940 ≤ n)) ∨ ∃ k : Nat, q = (k : Int) + 1 ∧ IsDate n p (k + 1) r) := by
  by_cases h : n < -730119 ∨ 2921940 ≤ n
  · refine ⟨0, 0, 0, fun W => ?_, fun W => dateOf_out n h W, Or.inl ⟨rfl, rfl, rfl, h⟩⟩
    refine (date_out n h W).mono ?_
    rintro e w' ⟨rfl, rfl⟩
    exact ⟨rfl, Below.refl _ _⟩
  · obtain ⟨y, d, k, hd⟩ : ∃ y d : Int, ∃ k : Nat, IsDate n y (k + 1) d := isDate_exists (by omega) (by omega)
    refine ⟨y, (k : Int) + 1, d, fun W => ?_, fun W => ?_, Or.inr ⟨k, rfl, hd⟩⟩
    · refine (date_in n (by omega) (by omega) W).mono ?_
      rintro e w' ⟨⟨y', d', k', rfl, hd'⟩, rfl⟩
      obtain ⟨rfl, e2, rfl⟩ := isDate_one hd hd'
      obtain rfl : k = k' := by omega
      exact ⟨rfl, Below.refl _ _⟩
    · refine (dateOf_in n (by omega) (by omega) W).mono ?_
      rintro e w' ⟨⟨y', d', k', rfl, hd'⟩, hb⟩
      obtain ⟨rfl, e2, rfl⟩ := isDate_one hd hd'
      obtain rfl : k = k' := by omega
      exact ⟨rfl, hb⟩
end Go.Proofs.YtjdjncfpcbeedaaDoor
