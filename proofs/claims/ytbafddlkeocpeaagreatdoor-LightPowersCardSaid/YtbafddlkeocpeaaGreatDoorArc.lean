/- What arc.Norm, arc.Signed, arc.Apart and their references compute, for every int. -/
import Derived.Test.YtbafddlkeocpeaaGreatDoorTab
namespace Go.Proofs.YtbafddlkeocpeaaGreatDoor
open Go.RowKit

/-- An angle, brought into one turn. -/
def nrm (a : Int) : Int := a % 1296000000000
def sgn (a : Int) : Int := if 648000000000 < nrm a then nrm a - 1296000000000 else nrm a
def apt (a b : Int) : Int := if sgn (nrm a - nrm b) < 0 then - sgn (nrm a - nrm b) else sgn (nrm a - nrm b)



theorem nrm_bd (a : Int) : 0 ≤ nrm a ∧ nrm a < 1296000000000 := by unfold nrm; omega
theorem sgn_bd (a : Int) : -648000000000 < sgn a ∧ sgn a ≤ 648000000000 := by
  have := nrm_bd a; unfold sgn; split <;> omega

theorem tmod_neg (a : Int) (h : a < 0) : a.tmod 1296000000000 = -((-a) % 1296000000000) := by
  have h1 : a = -(-a) := by omega
  rw [h1, Int.neg_tmod, Int.neg_neg, Int.tmod_eq_emod_of_nonneg (by omega)]

theorem ret_int {k : IntKind} {a b : Int} (h : a = b) : Ending.returned (.int k a) = .returned (.int k b) := by rw [h]

theorem norm_any (a : Int) (w : World) (ha : In64 a) :
    Calls Tryz.prog 23 #[.int .i64 a] w fun e w' => e = .returned (.int .i64 (nrm a)) ∧ w = w' := by
  obtain ⟨h1, h2⟩ := ha
  by_cases h0 : 0 ≤ a
  · have hb : 0 ≤ a % 1296000000000 := by omega
    go_enter Tryz.func23, Tryz.ntmps23
    go_wp2
    go_ret
    exact ⟨rfl, rfl⟩
  · have ht := tmod_neg a (by omega)
    by_cases hz : a.tmod 1296000000000 < 0
    · have hb : -1296000000000 < a.tmod 1296000000000 := by omega
      have e : nrm a = a.tmod 1296000000000 + 1296000000000 := by unfold nrm; omega
      rw [e]
      clear ht e
      go_enter Tryz.func23, Tryz.ntmps23
      go_wp2
      go_ret
      exact ⟨rfl, rfl⟩
    · have e : nrm a = a.tmod 1296000000000 := by unfold nrm; omega
      rw [e]
      clear ht e
      go_enter Tryz.func23, Tryz.ntmps23
      go_wp2
      go_ret
      exact ⟨rfl, rfl⟩

theorem normOf_any (a : Int) (w : World) (ha : In64 a) :
    Calls Tryz.prog 31 #[.int .i64 a] w fun e w' => e = .returned (.int .i64 (nrm a)) ∧ w = w' := by
  obtain ⟨h1, h2⟩ := ha
  by_cases h0 : 0 ≤ a
  · have hb : 0 ≤ a % 1296000000000 := by omega
    go_enter Tryz.func31, Tryz.ntmps31
    go_wp2
    go_ret
    exact ⟨rfl, rfl⟩
  · have ht := tmod_neg a (by omega)
    by_cases hz : a.tmod 1296000000000 < 0
    · have hb : -1296000000000 < a.tmod 1296000000000 := by omega
      have e : nrm a = a.tmod 1296000000000 + 1296000000000 := by unfold nrm; omega
      rw [e]
      clear ht e
      go_enter Tryz.func31, Tryz.ntmps31
      go_wp2
      go_ret
      exact ⟨rfl, rfl⟩
    · have e : nrm a = a.tmod 1296000000000 := by unfold nrm; omega
      rw [e]
      clear ht e
      go_enter Tryz.func31, Tryz.ntmps31
      go_wp2
      go_ret
      exact ⟨rfl, rfl⟩
end Go.Proofs.YtbafddlkeocpeaaGreatDoor
