/- What arc.Signed and arc.Apart compute, for every int. -/
import Derived.Test.YtpkifhmnibepiaaDoorArcN
namespace Go.Proofs.YtpkifhmnibepiaaDoor
open Go.RowKit

def sgn (a : Int) : Int := if 648000000000 < nrm a then nrm a - 1296000000000 else nrm a
def apt (a b : Int) : Int := if sgn (nrm a - nrm b) < 0 then - sgn (nrm a - nrm b) else sgn (nrm a - nrm b)
theorem sgn_bd (a : Int) : -648000000000 < sgn a ∧ sgn a ≤ 648000000000 := by
  have := nrm_bd a; unfold sgn; split <;> omega
theorem signed_any (a : Int) (w : World) (ha : In64 a) :
    Calls Tryd.prog 79 #[.int .i64 a] w fun e w' => e = .returned (.int .i64 (sgn a)) ∧ w = w' := by
  obtain ⟨b1, b2⟩ := nrm_bd a
  by_cases h : 648000000000 < nrm a
  · have e : sgn a = nrm a - 1296000000000 := by unfold sgn; rw [if_pos h]
    rw [e]; clear e
    go_enter Tryd.func79, Tryd.ntmps79
    go_wp2_with (go_at_call 70; refine (norm_any _ _ ha).mono ?_; rintro e w' ⟨rfl, rfl⟩)
    go_ret
    exact ⟨rfl, rfl⟩
  · have e : sgn a = nrm a := by unfold sgn; rw [if_neg h]
    rw [e]; clear e
    go_enter Tryd.func79, Tryd.ntmps79
    go_wp2_with (go_at_call 70; refine (norm_any _ _ ha).mono ?_; rintro e w' ⟨rfl, rfl⟩)
    go_ret
    exact ⟨rfl, rfl⟩

theorem apart_any (a b : Int) (w : World) (ha : In64 a) (hb : In64 b) :
    Calls Tryd.prog 28 #[.int .i64 a, .int .i64 b] w fun e w' => e = .returned (.int .i64 (apt a b)) ∧ w = w' := by
  have c1 := nrm_bd a
  have c2 := nrm_bd b
  have c3 := sgn_bd (nrm a - nrm b)
  by_cases h : sgn (nrm a - nrm b) < 0
  · have e : apt a b = - sgn (nrm a - nrm b) := by unfold apt; rw [if_pos h]
    rw [e]; clear e
    go_enter Tryd.func28, Tryd.ntmps28
    go_wp2_with fail
    refine (norm_any _ _ ha).mono ?_; rintro e w' ⟨rfl, rfl⟩
    go_wp2_with fail
    refine (norm_any _ _ hb).mono ?_; rintro e w' ⟨rfl, rfl⟩
    go_wp2_with fail
    refine (signed_any _ _ ⟨by omega, by omega⟩).mono ?_; rintro e w' ⟨rfl, rfl⟩
    go_wp2
    go_ret
    exact ⟨rfl, rfl⟩
  · have e : apt a b = sgn (nrm a - nrm b) := by unfold apt; rw [if_neg h]
    rw [e]; clear e
    go_enter Tryd.func28, Tryd.ntmps28
    go_wp2_with fail
    refine (norm_any _ _ ha).mono ?_; rintro e w' ⟨rfl, rfl⟩
    go_wp2_with fail
    refine (norm_any _ _ hb).mono ?_; rintro e w' ⟨rfl, rfl⟩
    go_wp2_with fail
    refine (signed_any _ _ ⟨by omega, by omega⟩).mono ?_; rintro e w' ⟨rfl, rfl⟩
    go_wp2
    go_ret
    exact ⟨rfl, rfl⟩

end Go.Proofs.YtpkifhmnibepiaaDoor
