/- The law BitsRoots: its walk. -/
import Derived.Test.YtpkifhmnibepiaaRoots
namespace Go.Proofs.Ytpkifhmnibepiaa
open Go.RowKit Ieee

theorem sqrt_four (w : World) : opR (double.sqrt 4616189618054758400) 4616189618054758400 4616189618054758400 w = 4611686018427387904 ∧ opW (double.sqrt 4616189618054758400) w = w := by
  have h : double.sqrt 4616189618054758400 = some 4611686018427387904 := by decide +kernel
  rw [h]
  exact ⟨rfl, rfl⟩
theorem root_four (w : World) :
    Calls Try.prog 5 #[.float .f64 4616189618054758400] w fun e w' => e = .returned (.float .f64 4611686018427387904) ∧ Below w.heap.size w w' := by
  refine (root_any 4616189618054758400 w).mono ?_
  rintro e w' ⟨he, hw⟩
  rw [(sqrt_four w).1] at he
  rw [hw]
  exact ⟨he, below_opW (Below.refl _ _) _⟩
theorem root_soft (a : Nat) (w : World) :
    Calls Try.prog 5 #[.float .f64 a] w fun e w' => ∃ r, e = .returned (.float .f64 r) ∧ Sft (double.sqrt a) r ∧ Below w.heap.size w w' := by
  refine (root_any a w).mono ?_
  rintro e w' ⟨he, rfl⟩
  exact ⟨_, he, sft_op _ _ _ _, below_opW (Below.refl _ _) _⟩
theorem sqrt_soft0 (a : Nat) (w : World) :
    Calls Try.prog 7 #[.float .f64 a] w fun e w' => ∃ r, e = .returned (.float .f64 r) ∧ Sft (double.sqrt a) r ∧ Below w.heap.size w w' := by
  refine (sqrt_any a w).mono ?_
  rintro e w' ⟨he, rfl⟩
  exact ⟨_, he, sft_op _ _ _ _, below_opW (Below.refl _ _) _⟩
end Go.Proofs.Ytpkifhmnibepiaa
