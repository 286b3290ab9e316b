/- The tile's number of a pixel: its bounds. -/
import Derived.Test.YthbekddpnkammaaDoorGrdO
namespace Go.Proofs.YthbekddpnkammaaDoor
open Go.RowKit

theorem tk_lt {W H T i : Nat} (hW : 0 < W) (hT : 0 < T) (hi : i < H * W) : tkF W T i < tilesN W T * tilesN H T := by
  have h1 : i / W < H := (Nat.div_lt_iff_lt_mul hW).2 hi
  have h2 := tiles_lt hT h1
  have h3 := tiles_lt hT (Nat.mod_lt i hW)
  unfold tkF
  have h4 := Nat.mul_le_mul_right (tilesN W T) (show i / W / T + 1 ≤ tilesN H T by omega)
  rw [Nat.succ_mul, Nat.mul_comm (tilesN H T)] at h4
  omega
/-- Each tile has a pixel. -/
theorem tk_hit {W H T k : Nat} (hW : 0 < W) (hT : 0 < T) (hk : k < tilesN W T * tilesN H T) : ∃ i, i < H * W ∧ tkF W T i = k := by
  have ht : 0 < tilesN W T := by
    by_cases h : tilesN W T = 0
    · rw [h, Nat.zero_mul] at hk; omega
    · omega
  have hc := Nat.mod_lt k ht
  have hr : k / tilesN W T < tilesN H T := (Nat.div_lt_iff_lt_mul ht).2 (by rw [Nat.mul_comm]; exact hk)
  have hcw := tiles_at hT hc
  have hrh := tiles_at hT hr
  have he := Nat.div_add_mod k (tilesN W T)
  rw [Nat.mul_comm] at he
  generalize k / tilesN W T = r at *
  generalize k % tilesN W T = c at *
  have hm := Nat.mul_le_mul_right W (show r * T + 1 ≤ H by omega)
  rw [Nat.succ_mul] at hm
  obtain ⟨e1, e2⟩ := row_at (v := r * T) hcw
  refine ⟨r * T * W + c * T, by omega, ?_⟩
  rw [← he]
  exact (tk_iff hW hT hc).2 (by rw [e1, e2]; exact ⟨⟨Nat.le_refl _, by omega⟩, Nat.le_refl _, by omega⟩)
/-- The tile's number as the program reckons it. -/
theorem tk_int (W T i : Nat) : ((i : Int) / (W : Int)) / (T : Int) * ((tilesN W T : Nat) : Int) + ((i : Int) % (W : Int)) / (T : Int) = ((tkF W T i : Nat) : Int) := by
  unfold tkF
  rw [← Int.natCast_ediv, ← Int.natCast_ediv, ← Int.natCast_emod, ← Int.natCast_ediv]
  push_cast
  rfl
theorem grdL_get (W T : Nat) (f : Nat → Int) (n : Nat) {N k : Nat} (hk : k < N) : (grdL W T f n N).getD k 0 = medL (tlL (tkF W T) f k n) := by
  induction N with
  | zero => omega
  | succ N ih =>
    rw [grdL_succ]
    by_cases h : k < N
    · rw [List.getD_eq_getElem?_getD, List.getElem?_append_left (by rw [grdL_len]; exact h), ← List.getD_eq_getElem?_getD]; exact ih h
    · obtain rfl : k = N := by omega
      rw [List.getD_eq_getElem?_getD, List.getElem?_append_right (by rw [grdL_len]; omega), grdL_len]
      simp
end Go.Proofs.YthbekddpnkammaaDoor
