/- Rows of ints. -/
import Derived.Test.YtbafddlkeocpeaaGreatDoorTab
import Derived.Maps.AppendAt
namespace Go.Proofs.YtbafddlkeocpeaaGreatDoor
open Go.RowKit

def IRow (w : World) (a : Option Addr) (len : Nat) (f : Nat → Int) : Prop := len = 0 ∨ ∃ b off, a = some ⟨b, off, none⟩ ∧ ∀ j, j < len → w.cell? ⟨b, off + j, none⟩ = some (.int .i64 (f j))
theorem IRow.below {w w' : World} {a : Option Addr} {len : Nat} {f : Nat → Int} (h : IRow w a len f) (hb : Below w.heap.size w w') : IRow w' a len f := by
  rcases h with h | ⟨b, off, e, hc⟩
  · exact Or.inl h
  · refine Or.inr ⟨b, off, e, fun j hj => ?_⟩
    have := hc j hj
    rw [hb.cell (p := ⟨b, off + j, none⟩) (cell_lt this)]; exact this
/-- The cells, each by itself. -/
theorem IRow.at {w : World} {a : Option Addr} {len : Nat} {f : Nat → Int} (h : IRow w a len f) {j : Nat} (hj : j < len) : ∃ b off, a = some ⟨b, off, none⟩ ∧ b < w.heap.size ∧ w.cell? ⟨b, off + j, none⟩ = some (.int .i64 (f j)) := by
  rcases h with h | ⟨b, off, e, hc⟩
  · omega
  · exact ⟨b, off, e, cell_lt (hc j hj), hc j hj⟩
/-- Rows of float64. -/
def FRow (w : World) (a : Option Addr) (len : Nat) (f : Nat → Nat) : Prop := len = 0 ∨ ∃ b off, a = some ⟨b, off, none⟩ ∧ ∀ j, j < len → w.cell? ⟨b, off + j, none⟩ = some (.float .f64 (f j))
theorem FRow.below {w w' : World} {a : Option Addr} {len : Nat} {f : Nat → Nat} (h : FRow w a len f) (hb : Below w.heap.size w w') : FRow w' a len f := by
  rcases h with h | ⟨b, off, e, hc⟩
  · exact Or.inl h
  · refine Or.inr ⟨b, off, e, fun j hj => ?_⟩
    have := hc j hj
    rw [hb.cell (p := ⟨b, off + j, none⟩) (cell_lt this)]; exact this
theorem FRow.at {w : World} {a : Option Addr} {len : Nat} {f : Nat → Nat} (h : FRow w a len f) {j : Nat} (hj : j < len) : ∃ b off, a = some ⟨b, off, none⟩ ∧ b < w.heap.size ∧ w.cell? ⟨b, off + j, none⟩ = some (.float .f64 (f j)) := by
  rcases h with h | ⟨b, off, e, hc⟩
  · omega
  · exact ⟨b, off, e, cell_lt (hc j hj), hc j hj⟩
end Go.Proofs.YtbafddlkeocpeaaGreatDoor
