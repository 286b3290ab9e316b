/- Plain laws of days' starts: each day is longer than nothing; each instant lies in one day. -/
import Derived.Test.YtjdjncfpcbeedaaDoorInst
namespace Go.Proofs.YtjdjncfpcbeedaaDoor
open Go.RowKit

theorem rowsOk_less {D A : Nat → Int} {k : Nat} (h : rowsOk D A (k + 1)) : rowsOk D A k := fun i hi => h i (by omega)
theorem ofTo_step {D A : Nat → Int} (day : Int) {k : Nat} (h : rowsOk D A k) : -1 ≤ ofTo D A (day + 1) k - ofTo D A day k ∧ ofTo D A (day + 1) k - ofTo D A day k ≤ 1 := by
  induction k with
  | zero => unfold ofTo; omega
  | succ k ih =>
    have ih' := ih (rowsOk_less h)
    by_cases c0 : k = 0
    · unfold ofTo; rw [if_pos (Or.inl c0), if_pos (Or.inl c0)]; omega
    · by_cases c1 : D k ≤ day
      · unfold ofTo; rw [if_pos (Or.inr (by omega)), if_pos (Or.inr c1)]; omega
      · by_cases c2 : D k ≤ day + 1
        · obtain ⟨j, rfl⟩ : ∃ j, k = j + 1 := ⟨k - 1, by omega⟩
          have h1 := (h (j + 1) (by omega)).2.2.2.2 (by omega)
          simp only [Nat.add_sub_cancel] at h1
          have e : ofTo D A day (j + 1) = A j := by unfold ofTo; rw [if_pos (Or.inr (by omega))]
          have e1 : ofTo D A day (j + 1 + 1) = A j := by rw [ofTo, if_neg (by omega)]; exact e
          have e2 : ofTo D A (day + 1) (j + 1 + 1) = A (j + 1) := by rw [ofTo, if_pos (Or.inr c2)]
          rw [e1, e2]
          omega
        · have e1 : ofTo D A day (k + 1) = ofTo D A day k := by rw [ofTo, if_neg (by omega)]
          have e2 : ofTo D A (day + 1) (k + 1) = ofTo D A (day + 1) k := by rw [ofTo, if_neg (by omega)]
          rw [e1, e2]; exact ih'
theorem start_step {D A : Nat → Int} (day : Int) {k : Nat} (h : rowsOk D A k) : startF D A k day < startF D A k (day + 1) := by
  have := ofTo_step day h
  unfold startF; omega
theorem start_mono {D A : Nat → Int} {k : Nat} (h : rowsOk D A k) (a : Int) (n : Nat) : startF D A k a ≤ startF D A k (a + n) := by
  induction n with
  | zero => simp
  | succ n ih =>
    have := start_step (a + n) h
    rw [show a + ((n + 1 : Nat) : Int) = a + n + 1 by omega]; omega
theorem start_le {D A : Nat → Int} {k : Nat} (h : rowsOk D A k) {a b : Int} (hab : a ≤ b) : startF D A k a ≤ startF D A k b := by
  have := start_mono h a (b - a).toNat
  rwa [show a + ((b - a).toNat : Int) = b by omega] at this
/-- Later instants have no earlier days. -/
theorem day_le {D A : Nat → Int} {k : Nat} (h : rowsOk D A k) {a b t u : Int} (htu : t ≤ u) (ha : startF D A k a ≤ t) (hb : u < startF D A k (b + 1)) : a ≤ b := by
  rcases Int.lt_or_le b a with c | c
  · have := start_le h (show b + 1 ≤ a by omega); omega
  · exact c
theorem length_start (D A : Nat → Int) (k : Nat) (day : Int) : lengthF D A k day = startF D A k (day + 1) - startF D A k day := by
  unfold lengthF startF; omega
theorem instant_there {D A : Nat → Int} {k : Nat} {t d : Int} (ht : goodB t = true) (h1 : startF D A k d ≤ t) (h2 : t < startF D A k (d + 1)) (h3 : -4000000 ≤ d) (h4 : d ≤ 4000000) :
    instOk D A k d (t - startF D A k d) ∧ instF D A k d (t - startF D A k d) = t := by
  have e : instF D A k d (t - startF D A k d) = t := by unfold instF; omega
  exact ⟨⟨h3, h4, by omega, by rw [length_start]; omega, by rw [e]; exact ht⟩, e⟩
end Go.Proofs.YtjdjncfpcbeedaaDoor
