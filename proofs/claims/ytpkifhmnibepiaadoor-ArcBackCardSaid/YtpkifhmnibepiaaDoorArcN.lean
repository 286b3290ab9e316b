/- What arc.Norm and its reference compute, for every int. -/
import Derived.Test.YtpkifhmnibepiaaDoorTab
namespace Go.Proofs.YtpkifhmnibepiaaDoor
open Go.RowKit

/-- An angle, brought into one turn. -/
def nrm (a : Int) : Int := a % 1296000000000
theorem nrm_bd (a : Int) : 0 ≤ nrm a ∧ nrm a < 1296000000000 := by unfold nrm; omega
theorem tmod_neg (a : Int) (h : a < 0) : a.tmod 1296000000000 = -((-a) % 1296000000000) := by
  have h1 : a = -(-a) := by omega
  rw [h1, Int.neg_tmod, Int.neg_neg, Int.tmod_eq_emod_of_nonneg (by omega)]

theorem norm_any (a : Int) (w : World) (ha : In64 a) :
    Calls Tryd.prog 70 #[.int .i64 a] w fun e w' => e = .returned (.int .i64 (nrm a)) ∧ w = w' := by
  obtain ⟨h1, h2⟩ := ha
  by_cases h0 : 0 ≤ a
  · have hb : 0 ≤ a % 1296000000000 := by omega
    go_enter Tryd.func70, Tryd.ntmps70
    go_wp2
    go_ret
    exact ⟨rfl, rfl⟩
  · have ht := tmod_neg a (by omega)
    by_cases hz : a.tmod 1296000000000 < 0
    · have hb : -1296000000000 < a.tmod 1296000000000 := by omega
      have e : nrm a = a.tmod 1296000000000 + 1296000000000 := by unfold nrm; omega
      rw [e]
      clear ht e
      go_enter Tryd.func70, Tryd.ntmps70
      go_wp2
      go_ret
      exact ⟨rfl, rfl⟩
    · have e : nrm a = a.tmod 1296000000000 := by unfold nrm; omega
      rw [e]
      clear ht e
      go_enter Tryd.func70, Tryd.ntmps70
      go_wp2
      go_ret
      exact ⟨rfl, rfl⟩

theorem normOf_any (a : Int) (w : World) (ha : In64 a) :
    Calls Tryd.prog 74 #[.int .i64 a] w fun e w' => e = .returned (.int .i64 (nrm a)) ∧ w = w' := by
  obtain ⟨h1, h2⟩ := ha
  by_cases h0 : 0 ≤ a
  · have hb : 0 ≤ a % 1296000000000 := by omega
    go_enter Tryd.func74, Tryd.ntmps74
    go_wp2
    go_ret
    exact ⟨rfl, rfl⟩
  · have ht := tmod_neg a (by omega)
    by_cases hz : a.tmod 1296000000000 < 0
    · have hb : -1296000000000 < a.tmod 1296000000000 := by omega
      have e : nrm a = a.tmod 1296000000000 + 1296000000000 := by unfold nrm; omega
      rw [e]
      clear ht e
      go_enter Tryd.func74, Tryd.ntmps74
      go_wp2
      go_ret
      exact ⟨rfl, rfl⟩
    · have e : nrm a = a.tmod 1296000000000 := by unfold nrm; omega
      rw [e]
      clear ht e
      go_enter Tryd.func74, Tryd.ntmps74
      go_wp2
      go_ret
      exact ⟨rfl, rfl⟩

end Go.Proofs.YtpkifhmnibepiaaDoor
