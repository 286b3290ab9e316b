/- GroundOf of package meridianref4: what it answers of what is wrong. -/
import Derived.Test.YthbekddpnkammaaGreatDoorGrdP
import Derived.Test.YthbekddpnkammaaGreatDoorOwn
import Derived.Test.YthbekddpnkammaaGreatDoorPicE
import Derived.Deep.RegionHeldLaw
import Derived.Deep.AppendLies
namespace Go.Proofs.YthbekddpnkammaaGreatDoor
open Go.RowKit

end Go.Proofs.YthbekddpnkammaaGreatDoor

namespace Go.Proofs.YthbekddpnkammaaGreatDoor
open Go.RowKit

/-- The ground of the tiles ahead of k. -/
def grdL (W T : Nat) (f : Nat → Int) (n : Nat) : Nat → List Int
  | 0 => []
  | k + 1 => grdL W T f n k ++ [medL (tlL (tkF W T) f k n)]
theorem grdL_succ (W T : Nat) (f : Nat → Int) (n k : Nat) : grdL W T f n (k + 1) = grdL W T f n k ++ [medL (tlL (tkF W T) f k n)] := rfl
theorem grdL_len (W T : Nat) (f : Nat → Int) (n k : Nat) : (grdL W T f n k).length = k := by
  induction k with
  | zero => rfl
  | succ k ih => rw [grdL_succ, List.length_append, ih]; rfl
theorem tiles_le (n : Nat) {T : Nat} (hT : 1 ≤ T) : tilesN n T ≤ n := by
  unfold tilesN
  by_cases h : n = 0
  · subst h
    rw [Nat.div_eq_of_lt (by omega)]
    exact Nat.le_refl _
  · have : (n + T - 1) / T < n + 1 := by
      rw [Nat.div_lt_iff_lt_mul (by omega), Nat.succ_mul]
      have := Nat.le_mul_of_pos_right n hT
      omega
    omega
theorem tile_all {W H T r c v : Nat} (f : Nat → Int) (hW : 0 < W) (hT : 0 < T) (hc : c < tilesN W T) (hv : v = r * T + T ∨ v = H) (hvH : v ≤ H) :
    tlL (tkF W T) f (r * tilesN W T + c) (v * W + c * T) = tlL (tkF W T) f (r * tilesN W T + c) (H * W) := by
  have hcw := tiles_at hT hc
  by_cases h : v = H
  · subst h
    refine tlL_skip (by omega) (fun j h1 h2 => ?_)
    rw [Ne, tk_iff hW hT hc]
    rintro ⟨_, h5, h6⟩
    have e := Nat.div_add_mod j W
    rw [Nat.mul_comm] at e
    have hv : j / W = v := by
      have a : v ≤ j / W := (Nat.le_div_iff_mul_le hW).2 (by omega)
      have b : j / W < v + 1 := (Nat.div_lt_iff_lt_mul hW).2 (by rw [Nat.succ_mul]; omega)
      omega
    rw [hv] at e
    omega
  · have hlt : v < H := by omega
    have h2 := Nat.mul_le_mul_right W (show v + 1 ≤ H by omega)
    rw [Nat.succ_mul] at h2
    have h3 := tile_end (r := r) f hW hT hc hv hvH (by omega : v = H ∨ v < H)
    rw [Nat.min_eq_left (by omega)] at h3
    exact h3.symm
theorem tiles_done {n T r Y : Nat} (hY : Y = r * T) (hT : 0 < T) (h : r ≤ tilesN n T) (h2 : ¬ Y < n) : r = tilesN n T := by
  by_cases c : r < tilesN n T
  · have := tiles_at hT c
    omega
  · omega
theorem tiles_more {n T r Y : Nat} (hY : Y = r * T) (hT : 0 < T) (h : Y < n) : r < tilesN n T := by
  have := tiles_lt hT h
  rwa [hY, Nat.mul_div_cancel _ hT] at this
end Go.Proofs.YthbekddpnkammaaGreatDoor

namespace Go.Proofs.YthbekddpnkammaaGreatDoor
open Go.RowKit

theorem tk_lt {W H T i : Nat} (hW : 0 < W) (hT : 0 < T) (hi : i < H * W) : tkF W T i < tilesN W T * tilesN H T := by
  have h1 : i / W < H := (Nat.div_lt_iff_lt_mul hW).2 hi
  have h2 := tiles_lt hT h1
  have h3 := tiles_lt hT (Nat.mod_lt i hW)
  unfold tkF
  have h4 := Nat.mul_le_mul_right (tilesN W T) (show i / W / T + 1 ≤ tilesN H T by omega)
  rw [Nat.succ_mul, Nat.mul_comm (tilesN H T)] at h4
  omega
/-- Each tile has a pixel. -/
theorem tk_hit {W H T k : Nat} (hW : 0 < W) (hT : 0 < T) (hk : k < tilesN W T * tilesN H T) : ∃ i, i < H * W ∧ tkF W T i = k := by
  have ht : 0 < tilesN W T := by
    by_cases h : tilesN W T = 0
    · rw [h, Nat.zero_mul] at hk; omega
    · omega
  have hc := Nat.mod_lt k ht
  have hr : k / tilesN W T < tilesN H T := (Nat.div_lt_iff_lt_mul ht).2 (by rw [Nat.mul_comm]; exact hk)
  have hcw := tiles_at hT hc
  have hrh := tiles_at hT hr
  have he := Nat.div_add_mod k (tilesN W T)
  rw [Nat.mul_comm] at he
  generalize k / tilesN W T = r at *
  generalize k % tilesN W T = c at *
  have hm := Nat.mul_le_mul_right W (show r * T + 1 ≤ H by omega)
  rw [Nat.succ_mul] at hm
  obtain ⟨e1, e2⟩ := row_at (v := r * T) hcw
  refine ⟨r * T * W + c * T, by omega, ?_⟩
  rw [← he]
  exact (tk_iff hW hT hc).2 (by rw [e1, e2]; exact ⟨⟨Nat.le_refl _, by omega⟩, Nat.le_refl _, by omega⟩)
/-- The tile's number as the program reckons it. -/
theorem tk_int (W T i : Nat) : ((i : Int) / (W : Int)) / (T : Int) * ((tilesN W T : Nat) : Int) + ((i : Int) % (W : Int)) / (T : Int) = ((tkF W T i : Nat) : Int) := by
  unfold tkF
  rw [← Int.natCast_ediv, ← Int.natCast_ediv, ← Int.natCast_emod, ← Int.natCast_ediv]
  push_cast
  rfl
theorem grdL_get (W T : Nat) (f : Nat → Int) (n : Nat) {N k : Nat} (hk : k < N) : (grdL W T f n N).getD k 0 = medL (tlL (tkF W T) f k n) := by
  induction N with
  | zero => omega
  | succ N ih =>
    rw [grdL_succ]
    by_cases h : k < N
    · rw [List.getD_eq_getElem?_getD, List.getElem?_append_left (by rw [grdL_len]; exact h), ← List.getD_eq_getElem?_getD]; exact ih h
    · obtain rfl : k = N := by omega
      rw [List.getD_eq_getElem?_getD, List.getElem?_append_right (by rw [grdL_len]; omega), grdL_len]
      simp
end Go.Proofs.YthbekddpnkammaaGreatDoor
