/- The reference's SumOf: what it lays ahead of the loop. -/
import Derived.Test.YtmkdcnemocdefaaGreatFmtExR
import Derived.Test.YtmkdcnemocdefaaGreatFmtFrow
import Derived.Test.YtmkdcnemocdefaaGreatFmtSum1
namespace Go.Proofs.YtmkdcnemocdefaaGreatFmt
open Go.RowKit

theorem info_int72 : (Tryz.prog.info? 3).map (fun i => (i.zero, i.size, i.bytes)) = some (some (.int .i64 0), 1, 8) := by kernel_rfl
def intsW (w : World) : World := w.alloc (.cells (madeCells #[.int .i64 0] 72) 3)
theorem run_ints72 (w : World) :
    (Instr.makeSlice 52 (.int .i64 72) (.int .i64 72)).run Tryz.prog w = .ok (.slice (some ⟨w.heap.size, 0, none⟩) 72 72) (intsW w) := by
  obtain ⟨i, hi, hz0, hz1, hz2⟩ := info_parts info_int72
  have h := run_make (P := Tryz.prog) w 52 3 i (.int .i64 0) Tryz.underlying52 hi hz0 .i64 .i64 72 72 (by omega) (by omega) (by rw [hz2]; omega) (by omega)
  rw [h, hz1]
  rfl
/-- Behind the reference's first lines: an exact sum of nought. -/
def exaW (w : World) : World := (intsW w).alloc (.cells #[.slice (some ⟨w.heap.size, 0, none⟩) 72 72] 54)
theorem ints_size (w : World) : (intsW w).heap.size = w.heap.size + 1 := by unfold intsW; simp
theorem exa_new (w : World) : Exa (exaW w) (w.heap.size + 1) w.heap.size (fun _ => 0) := by
  refine ⟨?_, ?_, by omega⟩
  · have k := heap_new (intsW w) (.cells #[.slice (some ⟨w.heap.size, 0, none⟩) 72 72] 54)
    rw [ints_size] at k
    exact k
  · refine ⟨madeCells #[.int .i64 0] 72, ?_, by simp [madeCells], fun i hi => by simp [madeCells, hi, Nat.mod_one]⟩
    have k := heap_new w (.cells (madeCells #[.int .i64 0] 72) 3)
    have s := ints_size w
    show ((intsW w).heap.push _)[w.heap.size]? = _
    rw [Array.getElem?_push_lt (by omega), ← Array.getElem?_eq_getElem]
    exact k
theorem exa_below (w : World) : Below w.heap.size w (exaW w) := ((Below.refl _ w).alloc (Nat.le_refl _) _).alloc (by rw [show (w.alloc (.cells (madeCells #[.int .i64 0] 72) 3)) = intsW w from rfl, ints_size]; omega) _
/-- What the reference's loop holds at its k-th turn. -/
def RefLo (w wr : World) (f : Nat → Nat) (k : Nat) : Prop :=
  ∃ F, Exa wr (w.heap.size + 1) w.heap.size F ∧ vald F 72 = totW f k ∧ (∀ i, -((k : Int) * 17179869184) ≤ F i ∧ F i ≤ (k : Int) * 17179869184) ∧ Below w.heap.size w wr
theorem RefLo.start (w : World) (f : Nat → Nat) : RefLo w (exaW w) f 0 := ⟨_, exa_new w, vald_zero 72, fun i => by omega, exa_below w⟩
theorem RefLo.drewN {w wr : World} {f : Nat → Nat} {k : Nat} (h : RefLo w wr f k) (m : Nat) : RefLo w (wr.drewN m) f k := by
  obtain ⟨F, h1, h2, h3, h4⟩ := h
  exact ⟨F, h1.drewN m, h2, h3, below_drewN h4 m⟩
theorem RefLo.skip {w wr : World} {f : Nat → Nat} {k : Nat} (h : RefLo w wr f k) (hx : ¬ fieldW (f k) < 2047) : RefLo w wr f (k + 1) := by
  obtain ⟨F, h1, h2, h3, h4⟩ := h
  refine ⟨F, h1, by rw [totW, if_neg hx, Int.add_zero]; exact h2, fun i => ?_, h4⟩
  have := h3 i
  omega
/-- A number taken. -/
theorem take_step {w wr : World} {f : Nat → Nat} {k : Nat} (h : RefLo w wr f k) (hk : k ≤ 300) (hx : f k < 18446744073709551616) (hf : fieldW (f k) < 2047) :
    Calls Tryz.prog 19 #[.pointer (some ⟨w.heap.size + 1, 0, none⟩), .float .f64 (f k)] wr fun en w' => en = .returned (.tuple #[]) ∧ RefLo w w' f (k + 1) := by
  obtain ⟨F, h1, h2, h3, h4⟩ := h
  refine (take_any (w.heap.size + 1) w.heap.size (f k) F wr hx hf h1 (fun i _ => by have := h3 i; omega)).mono ?_
  rintro e w' ⟨rfl, F', g1, g2, g3, g4⟩
  refine ⟨rfl, F', g1, by rw [g3, h2, totW, if_pos hf], fun i => ?_, h4.trans (g2.2.2)⟩
  have a := h3 i
  have b := g4 i
  omega
end Go.Proofs.YtmkdcnemocdefaaGreatFmt
