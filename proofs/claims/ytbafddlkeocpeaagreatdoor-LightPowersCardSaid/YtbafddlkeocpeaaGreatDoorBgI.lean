/- Whole numbers as math/big holds them: NewInt, Mul. -/
import Derived.Test.YtbafddlkeocpeaaGreatDoorBgN
namespace Go.Proofs.YtbafddlkeocpeaaGreatDoor
open Go.RowKit

/-- A number of at most one word, at block p. -/
def Int1 (w : World) (B p : Nat) (x : Int) : Prop :=
  B ≤ p ∧ (x = 0 ∧ w.heap[p]? = some (.cells #[.bool false, .slice none 0 0] 52) ∨
    x ≠ 0 ∧ ∃ g, B ≤ g ∧ g ≠ p ∧ w.heap[p]? = some (.cells #[.bool (decide (x < 0)), .slice (some ⟨g, 0, none⟩) 1 1] 52) ∧ w.heap[g]? = some (.cells #[.int .u64 (x.natAbs : Int)] 71))
theorem Int1.lt {w : World} {B p : Nat} {x : Int} (h : Int1 w B p x) : p < w.heap.size := by
  obtain ⟨h1, ⟨e, h4⟩ | ⟨e, g, h5, h7, h8, h9⟩⟩ := h
  · exact heap_lt h4
  · exact heap_lt h8
theorem Int1.below {w w' : World} {B p : Nat} {x : Int} (h : Int1 w B p x) (hb : Below w.heap.size w w') : Int1 w' B p x := by
  obtain ⟨h1, ⟨e, h4⟩ | ⟨e, g, h5, h7, h8, h9⟩⟩ := h
  · exact ⟨h1, Or.inl ⟨e, by rw [hb.block _ (heap_lt h4)]; exact h4⟩⟩
  · exact ⟨h1, Or.inr ⟨e, g, h5, h7, by rw [hb.block _ (heap_lt h8)]; exact h8, by rw [hb.block _ (heap_lt h9)]; exact h9⟩⟩
theorem int1_made (w : World) (u : Int) (x : Int) (hx : x ≠ 0) (hu : u = (x.natAbs : Int)) (b : Bool) (hb : b = decide (x < 0)) :
    Int1 ((w.alloc (.cells #[.int .u64 u] 71)).alloc (.cells #[.bool b, .slice (some ⟨w.heap.size, 0, none⟩) 1 1] 52)) w.heap.size (w.heap.size + 1) x := by
  have hs : (w.alloc (.cells #[.int .u64 u] 71)).heap.size = w.heap.size + 1 := by simp
  have c0 := heap_new (w.alloc (.cells #[.int .u64 u] 71)) (.cells #[.bool b, .slice (some ⟨w.heap.size, 0, none⟩) 1 1] 52)
  rw [hs] at c0
  refine ⟨by omega, Or.inr ⟨hx, w.heap.size, Nat.le_refl _, by omega, by rw [c0, hb], ?_⟩⟩
  rw [Below.heap_alloc _ _ _ (by rw [hs]; exact Nat.lt_succ_self _), heap_new, hu]
theorem newInt_zero (w : World) :
    Calls Tryz.prog 22 #[.int .i64 0] w fun e w' => ∃ p, e = .returned (.pointer (some ⟨p, 0, none⟩)) ∧ Int1 w' w.heap.size p 0 ∧ Below w.heap.size w w' := by
  go_enter Tryz.func22, Tryz.ntmps22
  go_wp2
  go_ret
  refine ⟨w.heap.size, rfl, ?_, by go_grown⟩
  exact ⟨Nat.le_refl _, Or.inl ⟨rfl, heap_new w _⟩⟩
theorem newInt_pos (x : Int) (h0 : 0 < x) (h1 : x ≤ 9223372036854775807) (w : World) :
    Calls Tryz.prog 22 #[.int .i64 x] w fun e w' => ∃ p, e = .returned (.pointer (some ⟨p, 0, none⟩)) ∧ Int1 w' w.heap.size p x ∧ Below w.heap.size w w' := by
  have hx : ¬ x < 0 := by omega
  have hx0 : ¬ x = 0 := by omega
  go_enter Tryz.func22, Tryz.ntmps22
  go_wp2
  go_ret
  exact ⟨w.heap.size + 1, rfl, int1_made w x x (by omega) (by omega) false (by simp; omega), by go_grown⟩
theorem newInt_neg (x : Int) (h0 : x < 0) (h1 : -9223372036854775808 ≤ x) (w : World) :
    Calls Tryz.prog 22 #[.int .i64 x] w fun e w' => ∃ p, e = .returned (.pointer (some ⟨p, 0, none⟩)) ∧ Int1 w' w.heap.size p x ∧ Below w.heap.size w w' := by
  have hx0 : ¬ x = 0 := by omega
  have e1 : IntKind.u64.wrap x = x + 18446744073709551616 := by rw [IntKind.wrap_u64]; omega
  have e2 : IntKind.u64.wrap (-(x + 18446744073709551616)) = (x.natAbs : Int) := by rw [IntKind.wrap_u64]; omega
  go_enter Tryz.func22, Tryz.ntmps22
  go_wp2
  go_ret
  exact ⟨w.heap.size + 1, rfl, int1_made w _ x (by omega) rfl true (by simp; omega), by go_grown⟩
theorem newInt_any (x : Int) (h : In64 x) (w : World) :
    Calls Tryz.prog 22 #[.int .i64 x] w fun e w' => ∃ p, e = .returned (.pointer (some ⟨p, 0, none⟩)) ∧ Int1 w' w.heap.size p x ∧ Below w.heap.size w w' := by
  obtain ⟨h1, h2⟩ := h
  by_cases h0 : x = 0
  · subst h0; exact newInt_zero w
  · by_cases hp : 0 < x
    · exact newInt_pos x hp h2 w
    · exact newInt_neg x (by omega) h1 w
end Go.Proofs.YtbafddlkeocpeaaGreatDoor
