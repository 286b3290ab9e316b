/- The law's own example: one star in three pixels. -/
import Derived.Test.YthbekddpnkammaaGreatDoorFnd1
namespace Go.Proofs.YthbekddpnkammaaGreatDoor
open Go.RowKit

def f3 (k : Nat) : Int := if k = 1 then 9 else 0
theorem med3 : medL [0, 9, 0] = 0 := mid_one (medL_mid (by decide)) (by unfold isMid ltC eqC; decide)
theorem less3 (k : Nat) (hk : k < 3) : lessF 3 3 f3 3 k = f3 k := by
  have ht : ∀ j, j < 3 → tkF 3 3 j = 0 := fun j hj => by
    have : j = 0 ∨ j = 1 ∨ j = 2 := by omega
    rcases this with rfl | rfl | rfl <;> rfl
  have e : tlL (tkF 3 3) f3 0 3 = [0, 9, 0] := by
    rw [tlL_hit (ht 2 (by decide)), tlL_hit (ht 1 (by decide)), tlL_hit (ht 0 (by decide))]
    rfl
  unfold lessF
  rw [ht k hk, e, med3]
  omega
def lit1 (k : Nat) : Bool := decide (2 < lessF 3 3 f3 3 k)
theorem lit1_at (k : Nat) (hk : k < 3) : lit1 k = (k == 1) := by
  unfold lit1
  rw [less3 k hk]
  have : k = 0 ∨ k = 1 ∨ k = 2 := by omega
  rcases this with rfl | rfl | rfl <;> rfl
theorem root1 : Root lit1 3 3 1 := ⟨by rw [lit1_at 1 (by decide)]; rfl, by decide, fun j hj hc => by
  obtain rfl : j = 0 := by omega
  have := hc.lit1.1
  rw [lit1_at 0 (by decide)] at this
  cases this⟩
theorem rc1 : rc lit1 3 3 3 = 1 := by
  have r0 : ¬ Root lit1 3 3 0 := fun h => by have := h.1; rw [lit1_at 0 (by decide)] at this; cases this
  have r2 : ¬ Root lit1 3 3 2 := fun h => by have := h.1; rw [lit1_at 2 (by decide)] at this; cases this
  rw [rc_not r2, rc_root root1, rc_not r0]; rfl
theorem found3 {M : Nat → Nat} (h : FI lit1 3 3 3 M) : ∃ s : Sp, foundL 3 (lessF 3 3 f3 3) M 3 1 1 = [s] ∧ s.Li = 9 := by
  have m0 : M 0 = 0 := by
    by_cases c : M 0 = 0
    · exact c
    · have := (fi_lit h (k := 0) (by decide)).2 c
      rw [lit1_at 0 (by decide)] at this; cases this
  have m2 : M 2 = 0 := by
    by_cases c : M 2 = 0
    · exact c
    · have := (fi_lit h (k := 2) (by decide)).2 c
      rw [lit1_at 2 (by decide)] at this; cases this
  have m1 : M 1 = 1 := by
    have h1 := (h 1 (by decide)).2 1 root1 (by decide) (Conn.refl root1.1 root1.2.1)
    have r0 : ¬ Root lit1 3 3 0 := fun h => by have := h.1; rw [lit1_at 0 (by decide)] at this; cases this
    rw [rc_root root1, rc_not r0] at h1
    exact h1
  have e3 : stS 3 (lessF 3 3 f3 3) M 0 3 = addS 3 (lessF 3 3 f3 3) 1 (firstS 3 1) := by
    rw [stS_miss _ _ _ (by rw [m2]; decide), stS_hit _ _ _ (by rw [m1]), stS_miss _ _ _ (by rw [m0]; decide)]
    rfl
  refine ⟨starS (addS 3 (lessF 3 3 f3 3) 1 (firstS 3 1)), ?_, ?_⟩
  · unfold foundL
    have : stayL (fun p => stS 3 (lessF 3 3 f3 3) M p 3) 1 1 = [addS 3 (lessF 3 3 f3 3) 1 (firstS 3 1)] := by
      rw [stayL_keep (by show ¬ (stS 3 (lessF 3 3 f3 3) M 0 3).P < 1; rw [e3]; show ¬ (0 : Int) + 1 < 1; decide)]
      show [] ++ [stS 3 (lessF 3 3 f3 3) M 0 3] = _
      rw [e3]
      rfl
    rw [this]
    rfl
  · show (0 : Int) + lessF 3 3 f3 3 1 = 9
    rw [less3 1 (by decide)]
    rfl
theorem pic3 : picG 3 1 3 f3 := ⟨by decide, by decide, by decide, by decide, by decide, fun j _ => by
  unfold f3
  split
  · exact ⟨by decide, by decide⟩
  · exact ⟨by decide, by decide⟩⟩
set_option maxHeartbeats 1000000 in
theorem spotted_any (ad : Nat → Addr) (w : World) (he : Errs w ad [1, 4]) :
    Calls Tryz.prog 6 #[] w fun e w' => e = .returned (.bool true) ∧ Below w.heap.size w w' := by
  have hb0 : ∀ o, Below w.heap.size w (w.alloc o) := fun o => (Below.refl _ _).alloc (Nat.le_refl _) _
  have HF : Hid (∀ T, Calls Tryz.prog 20 #[.agg #[.int .i64 3, .int .i64 1, .slice (some ⟨w.heap.size, 0, none⟩) 3 3], .int .i64 3, .int .i64 2, .int .i64 1] (w.alloc (.cells #[.int .i64 0, .int .i64 9, .int .i64 0] T)) fun e w' =>
      ∃ g' c', e = .returned (.tuple #[.slice (some ⟨g', 0, none⟩) 1 c', .nilIface]) ∧ w'.cell? ⟨g', 5, none⟩ = some (.int .i64 9) ∧ Below w.heap.size w w') := Lib.hid (fun T => by
    have hI : IRow (w.alloc (.cells #[.int .i64 0, .int .i64 9, .int .i64 0] T)) (some ⟨w.heap.size, 0, none⟩) 3 f3 := Or.inr ⟨_, _, rfl, fun j hj => by
      have : j = 0 ∨ j = 1 ∨ j = 2 := by omega
      rcases this with rfl | rfl | rfl <;> simp [f3]⟩
    have h := find_ok ad 3 1 3 2 1 f3 (some ⟨w.heap.size, 0, none⟩) 3 3 _ (he.below (hb0 _)) hI pic3 (by decide) (by decide) (by decide) (by decide)
    refine h.mono ?_
    rintro e w' ⟨g', c', M, rfl, hF, hO, hB⟩
    have hF' : FI lit1 3 3 3 M := hF
    have er : rc (fun k => decide ((2 : Int) < lessF 3 3 f3 3 k)) 3 3 3 = 1 := rc1
    rw [er] at hO ⊢
    obtain ⟨s, hs, h9⟩ := found3 hF'
    rw [hs] at hO ⊢
    refine ⟨g', c', rfl, ?_, below_step (hb0 _) hB⟩
    have := (hO 5 (show 5 < 1 * 9 by decide)).1
    rw [this]
    show some (Value.int .i64 s.Li) = _
    rw [h9])
  clear he
  go_enter Tryz.func6, Tryz.ntmps6
  go_wp2_with fail
  refine (HF.out _).mono ?_; rintro e w1 ⟨g', c', rfl, hc, hb1⟩
  have HB := Lib.hid hb1
  clear hb0 hb1 HF
  go_wp2
  go_ret
  exact ⟨rfl, HB.out⟩
end Go.Proofs.YthbekddpnkammaaGreatDoor
