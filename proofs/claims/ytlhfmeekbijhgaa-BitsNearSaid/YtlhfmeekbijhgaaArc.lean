/- What arc.Norm, arc.Signed, arc.Apart and their references compute, for every int. -/
import Derived.Test.YtlhfmeekbijhgaaRows
import Derived.WalkKit
import Derived.Handy
namespace Go.Proofs.Ytlhfmeekbijhgaa
open Go.RowKit

/-- An angle, brought into one turn. -/
def nrm (a : Int) : Int := a % 1296000000000
def sgn (a : Int) : Int := if 648000000000 < nrm a then nrm a - 1296000000000 else nrm a
def apt (a b : Int) : Int := if sgn (nrm a - nrm b) < 0 then - sgn (nrm a - nrm b) else sgn (nrm a - nrm b)

def In64 (a : Int) : Prop := -9223372036854775808 ≤ a ∧ a ≤ 9223372036854775807

theorem wf_in64 {a : Int} (h : (Lit.int .i64 a).wf = true) : In64 a := by
  unfold In64; simp [Lit.wf] at h; exact h

theorem nrm_bd (a : Int) : 0 ≤ nrm a ∧ nrm a < 1296000000000 := by unfold nrm; omega
theorem sgn_bd (a : Int) : -648000000000 < sgn a ∧ sgn a ≤ 648000000000 := by
  have := nrm_bd a; unfold sgn; split <;> omega

theorem tmod_neg (a : Int) (h : a < 0) : a.tmod 1296000000000 = -((-a) % 1296000000000) := by
  have h1 : a = -(-a) := by omega
  rw [h1, Int.neg_tmod, Int.neg_neg, Int.tmod_eq_emod_of_nonneg (by omega)]

theorem ret_int {k : IntKind} {a b : Int} (h : a = b) : Ending.returned (.int k a) = .returned (.int k b) := by rw [h]

theorem norm_any (a : Int) (w : World) (ha : In64 a) :
    Calls Try.prog 11 #[.int .i64 a] w fun e w' => e = .returned (.int .i64 (nrm a)) ∧ w = w' := by
  obtain ⟨h1, h2⟩ := ha
  by_cases h0 : 0 ≤ a
  · have hb : 0 ≤ a % 1296000000000 := by omega
    go_enter Try.func11, Try.ntmps11
    go_wp2
    go_ret
    exact ⟨rfl, rfl⟩
  · have ht := tmod_neg a (by omega)
    by_cases hz : a.tmod 1296000000000 < 0
    · have hb : -1296000000000 < a.tmod 1296000000000 := by omega
      have e : nrm a = a.tmod 1296000000000 + 1296000000000 := by unfold nrm; omega
      rw [e]
      clear ht e
      go_enter Try.func11, Try.ntmps11
      go_wp2
      go_ret
      exact ⟨rfl, rfl⟩
    · have e : nrm a = a.tmod 1296000000000 := by unfold nrm; omega
      rw [e]
      clear ht e
      go_enter Try.func11, Try.ntmps11
      go_wp2
      go_ret
      exact ⟨rfl, rfl⟩

theorem normOf_any (a : Int) (w : World) (ha : In64 a) :
    Calls Try.prog 13 #[.int .i64 a] w fun e w' => e = .returned (.int .i64 (nrm a)) ∧ w = w' := by
  obtain ⟨h1, h2⟩ := ha
  by_cases h0 : 0 ≤ a
  · have hb : 0 ≤ a % 1296000000000 := by omega
    go_enter Try.func13, Try.ntmps13
    go_wp2
    go_ret
    exact ⟨rfl, rfl⟩
  · have ht := tmod_neg a (by omega)
    by_cases hz : a.tmod 1296000000000 < 0
    · have hb : -1296000000000 < a.tmod 1296000000000 := by omega
      have e : nrm a = a.tmod 1296000000000 + 1296000000000 := by unfold nrm; omega
      rw [e]
      clear ht e
      go_enter Try.func13, Try.ntmps13
      go_wp2
      go_ret
      exact ⟨rfl, rfl⟩
    · have e : nrm a = a.tmod 1296000000000 := by unfold nrm; omega
      rw [e]
      clear ht e
      go_enter Try.func13, Try.ntmps13
      go_wp2
      go_ret
      exact ⟨rfl, rfl⟩

theorem signed_any (a : Int) (w : World) (ha : In64 a) :
    Calls Try.prog 10 #[.int .i64 a] w fun e w' => e = .returned (.int .i64 (sgn a)) ∧ w = w' := by
  obtain ⟨b1, b2⟩ := nrm_bd a
  by_cases h : 648000000000 < nrm a
  · have e : sgn a = nrm a - 1296000000000 := by unfold sgn; rw [if_pos h]
    rw [e]; clear e
    go_enter Try.func10, Try.ntmps10
    go_wp2_with (go_at_call 11; refine (norm_any _ _ ha).mono ?_; rintro e w' ⟨rfl, rfl⟩)
    go_ret
    exact ⟨rfl, rfl⟩
  · have e : sgn a = nrm a := by unfold sgn; rw [if_neg h]
    rw [e]; clear e
    go_enter Try.func10, Try.ntmps10
    go_wp2_with (go_at_call 11; refine (norm_any _ _ ha).mono ?_; rintro e w' ⟨rfl, rfl⟩)
    go_ret
    exact ⟨rfl, rfl⟩

theorem signedOf_any (a : Int) (w : World) (ha : In64 a) :
    Calls Try.prog 14 #[.int .i64 a] w fun e w' => e = .returned (.int .i64 (sgn a)) ∧ w = w' := by
  obtain ⟨b1, b2⟩ := nrm_bd a
  by_cases h : 648000000000 < nrm a
  · have e : sgn a = nrm a - 1296000000000 := by unfold sgn; rw [if_pos h]
    rw [e]; clear e
    go_enter Try.func14, Try.ntmps14
    go_wp2_with (go_at_call 13; refine (normOf_any _ _ ha).mono ?_; rintro e w' ⟨rfl, rfl⟩)
    go_ret
    exact ⟨rfl, rfl⟩
  · have e : sgn a = nrm a := by unfold sgn; rw [if_neg h]
    rw [e]; clear e
    go_enter Try.func14, Try.ntmps14
    go_wp2_with (go_at_call 13; refine (normOf_any _ _ ha).mono ?_; rintro e w' ⟨rfl, rfl⟩)
    go_ret
    exact ⟨rfl, rfl⟩

theorem apart_any (a b : Int) (w : World) (ha : In64 a) (hb : In64 b) :
    Calls Try.prog 12 #[.int .i64 a, .int .i64 b] w fun e w' => e = .returned (.int .i64 (apt a b)) ∧ w = w' := by
  have c1 := nrm_bd a
  have c2 := nrm_bd b
  have c3 := sgn_bd (nrm a - nrm b)
  by_cases h : sgn (nrm a - nrm b) < 0
  · have e : apt a b = - sgn (nrm a - nrm b) := by unfold apt; rw [if_pos h]
    rw [e]; clear e
    go_enter Try.func12, Try.ntmps12
    go_wp2_with fail
    refine (norm_any _ _ ha).mono ?_; rintro e w' ⟨rfl, rfl⟩
    go_wp2_with fail
    refine (norm_any _ _ hb).mono ?_; rintro e w' ⟨rfl, rfl⟩
    go_wp2_with fail
    refine (signed_any _ _ ⟨by omega, by omega⟩).mono ?_; rintro e w' ⟨rfl, rfl⟩
    go_wp2
    go_ret
    exact ⟨rfl, rfl⟩
  · have e : apt a b = sgn (nrm a - nrm b) := by unfold apt; rw [if_neg h]
    rw [e]; clear e
    go_enter Try.func12, Try.ntmps12
    go_wp2_with fail
    refine (norm_any _ _ ha).mono ?_; rintro e w' ⟨rfl, rfl⟩
    go_wp2_with fail
    refine (norm_any _ _ hb).mono ?_; rintro e w' ⟨rfl, rfl⟩
    go_wp2_with fail
    refine (signed_any _ _ ⟨by omega, by omega⟩).mono ?_; rintro e w' ⟨rfl, rfl⟩
    go_wp2
    go_ret
    exact ⟨rfl, rfl⟩

theorem apart_alt (a b : Int) : apt a b = if 1296000000000 - nrm (nrm a - nrm b) < nrm (nrm a - nrm b) then 1296000000000 - nrm (nrm a - nrm b) else nrm (nrm a - nrm b) := by
  unfold apt sgn
  have := nrm_bd (nrm a - nrm b)
  repeat (first | omega | split)

theorem apartOf_any (a b : Int) (w : World) (ha : In64 a) (hb : In64 b) :
    Calls Try.prog 15 #[.int .i64 a, .int .i64 b] w fun e w' => e = .returned (.int .i64 (apt a b)) ∧ w = w' := by
  have c1 := nrm_bd a
  have c2 := nrm_bd b
  have c3 := nrm_bd (nrm a - nrm b)
  have ea := apart_alt a b
  by_cases h : 1296000000000 - nrm (nrm a - nrm b) < nrm (nrm a - nrm b)
  · rw [if_pos h] at ea
    rw [ea]; clear ea
    go_enter Try.func15, Try.ntmps15
    go_wp2_with fail
    refine (normOf_any _ _ ha).mono ?_; rintro e w' ⟨rfl, rfl⟩
    go_wp2_with fail
    refine (normOf_any _ _ hb).mono ?_; rintro e w' ⟨rfl, rfl⟩
    go_wp2_with fail
    refine (normOf_any _ _ ⟨by omega, by omega⟩).mono ?_; rintro e w' ⟨rfl, rfl⟩
    go_wp2
    go_ret
    exact ⟨rfl, rfl⟩
  · rw [if_neg h] at ea
    rw [ea]; clear ea
    go_enter Try.func15, Try.ntmps15
    go_wp2_with fail
    refine (normOf_any _ _ ha).mono ?_; rintro e w' ⟨rfl, rfl⟩
    go_wp2_with fail
    refine (normOf_any _ _ hb).mono ?_; rintro e w' ⟨rfl, rfl⟩
    go_wp2_with fail
    refine (normOf_any _ _ ⟨by omega, by omega⟩).mono ?_; rintro e w' ⟨rfl, rfl⟩
    go_wp2
    go_ret
    exact ⟨rfl, rfl⟩

theorem apt_comm (a b : Int) : apt a b = apt b a := by
  rw [apart_alt, apart_alt]
  unfold nrm
  repeat (first | omega | split)
end Go.Proofs.Ytlhfmeekbijhgaa
