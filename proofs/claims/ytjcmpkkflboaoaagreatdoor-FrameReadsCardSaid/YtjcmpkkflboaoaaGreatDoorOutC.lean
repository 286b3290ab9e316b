/- A row of cells that a call made and stores into. -/
import Derived.Test.YtjcmpkkflboaoaaGreatDoorInts
import Derived.Test.YtjcmpkkflboaoaaGreatDoorBigP
namespace Go.Proofs.YtjcmpkkflboaoaaGreatDoor
open Go.RowKit

def OutC (w : World) (g n : Nat) (M : Nat → Nat) : Prop := ∀ j, j < n → w.cell? ⟨g, j, none⟩ = some (.int .i64 (M j)) ∧ w.frozen? ⟨g, j, none⟩ = false
theorem OutC.put {w : World} {g n : Nat} {M : Nat → Nat} (h : OutC w g n M) {i : Nat} (hi : i < n) (x : Nat) : OutC (w.setCell ⟨g, i, none⟩ (.int .i64 x)) g n (putF M i x) := by
  intro j hj
  refine ⟨?_, ?_⟩
  · by_cases c : j = i
    · subst c
      rw [putF_same]
      exact World.cell?_setCell_same _ _ _ (h j hj).1
    · rw [putF_other _ _ c, World.cell?_setCell_other _ _ _ _ (by intro e; injection e; omega)]
      exact (h j hj).1
  · rw [World.frozen?_setCell]; exact (h j hj).2
theorem OutC.drawN {w : World} {g n : Nat} {M : Nat → Nat} (h : OutC w g n M) (k : Nat) : OutC (w.drewN k) g n M := by
  intro j hj
  simpa using h j hj
theorem outC_made {w : World} {base g n : Nat} (h : w.ownsRow base 3 1 (.slice (some ⟨g, 0, none⟩) n n) n (madeCells (Value.int .i64 0).cells (n * 1)).toList) : OutC w g n (fun _ => 0) := by
  intro j hj
  refine ⟨?_, h.frozenAt j⟩
  rw [h.cellAt j (by omega)]
  have e : (Value.int .i64 0).cells = #[.int .i64 0] := rfl
  rw [e, toList_madeCells_one]
  simp [hj]

/-! ### trimmed -/
end Go.Proofs.YtjcmpkkflboaoaaGreatDoor
