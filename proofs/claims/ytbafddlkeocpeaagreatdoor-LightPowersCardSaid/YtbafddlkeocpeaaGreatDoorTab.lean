/- Small laws on worlds; the sentinels. -/
import Derived.Test.YtbafddlkeocpeaaGreatDoorRows
import Derived.WalkKit
import Derived.Handy
import Derived.Lib.Hide
import Derived.Deep.QuietTactic
import Derived.BigQuiet
import Derived.WalkLawsBesides
import Derived.Deep.RegionHeld3
namespace Go.Proofs.YtbafddlkeocpeaaGreatDoor
open Go.RowKit

def In64 (a : Int) : Prop := -9223372036854775808 ≤ a ∧ a ≤ 9223372036854775807
theorem wf_in64 {a : Int} (h : (Lit.int .i64 a).wf = true) : In64 a := by
  unfold In64; simp [Lit.wf] at h; exact h
theorem below_drewN {B : Nat} {w w' : World} (h : Below B w w') (n : Nat) : Below B w (w'.drewN n) := by
  induction n with
  | zero => exact h
  | succ n ih => exact ih.drew
theorem below_step {a b c : World} (h : Below a.heap.size a b) (k : Below b.heap.size b c) : Below a.heap.size a c := h.trans (k.mono h.size)
theorem cell_lt {w : World} {b o : Nat} {v : Value} (h : w.cell? ⟨b, o, none⟩ = some v) : b < w.heap.size := by
  rcases Nat.lt_or_ge b w.heap.size with g | g
  · exact g
  · simp [World.cell?, Array.getElem?_eq_none g] at h

/-! ### the sentinels -/
def errG : Nat → Nat
  | 0 => 2
  | 1 => 1
  | 2 => 3
  | 3 => 4
  | 4 => 0
  | 5 => 5
  | 6 => 6
  | 7 => 7
  | 8 => 8
  | _ => 9
def errV (ad : Nat → Addr) (i : Nat) : Value := .iface 278 (.pointer (some (ad i)))
/-- The sentinels that matter lie in their variables. -/
def Errs (w : World) (ad : Nat → Addr) (which : List Nat) : Prop := ∀ i, i ∈ which → w.cell? ⟨errG i, 0, none⟩ = some (errV ad i)
theorem Errs.below {w w' : World} {ad : Nat → Addr} {l : List Nat} (h : Errs w ad l) (hb : Below w.heap.size w w') : Errs w' ad l := by
  intro i hi
  have h1 := h i hi
  rw [hb.cell (p := ⟨errG i, 0, none⟩) (cell_lt h1)]
  exact h1
end Go.Proofs.YtbafddlkeocpeaaGreatDoor
