/- The tiles of a picture: plain laws. -/
import Derived.Test.YthbekddpnkammaaGreatDoorMedP
namespace Go.Proofs.YthbekddpnkammaaGreatDoor
open Go.RowKit

/-- The values of the pixels ahead of i that lie in part k. -/
def tlL (q : Nat → Nat) (f : Nat → Int) (k : Nat) : Nat → List Int
  | 0 => []
  | i + 1 => tlL q f k i ++ (if q i = k then [f i] else [])
section
variable {q : Nat → Nat} {f : Nat → Int} {k : Nat}
theorem tlL_hit {i : Nat} (h : q i = k) : tlL q f k (i + 1) = tlL q f k i ++ [f i] := by rw [tlL, if_pos h]
theorem tlL_miss {i : Nat} (h : q i ≠ k) : tlL q f k (i + 1) = tlL q f k i := by rw [tlL, if_neg h, List.append_nil]
theorem tlL_skip {a b : Nat} (hab : a ≤ b) (h : ∀ j, a ≤ j → j < b → q j ≠ k) : tlL q f k b = tlL q f k a := by
  obtain ⟨d, rfl⟩ : ∃ d, b = a + d := ⟨b - a, by omega⟩
  clear hab
  induction d with
  | zero => rfl
  | succ d ih =>
    rw [← Nat.add_assoc, tlL_miss (h (a + d) (by omega) (by omega))]
    exact ih (fun j h1 h2 => h j h1 (by omega))
theorem tlL_len (i : Nat) : (tlL q f k i).length ≤ i := by
  induction i with
  | zero => exact Nat.le_refl _
  | succ i ih =>
    rw [tlL, List.length_append]
    split
    · simp; omega
    · simp; omega
theorem tlL_pos {i n : Nat} (hi : i < n) (h : q i = k) : 0 < (tlL q f k n).length := by
  obtain ⟨d, rfl⟩ : ∃ d, n = i + 1 + d := ⟨n - (i + 1), by omega⟩
  clear hi
  induction d with
  | zero => rw [Nat.add_zero, tlL_hit h, List.length_append]; simp
  | succ d ih =>
    rw [← Nat.add_assoc, tlL, List.length_append]
    omega
end
/-- How many tiles lie across. -/
def tilesN (n T : Nat) : Nat := (n + T - 1) / T
/-- The tile of a pixel. -/
def tkF (W T i : Nat) : Nat := i / W / T * tilesN W T + i % W / T
theorem tiles_lt {n T x : Nat} (hT : 0 < T) (hx : x < n) : x / T < tilesN n T := by
  unfold tilesN
  rw [Nat.div_lt_iff_lt_mul hT]
  have h := Nat.div_add_mod (n + T - 1) T
  have h2 := Nat.mod_lt (n + T - 1) hT
  rw [Nat.mul_comm] at h
  omega
theorem tiles_at {n T c : Nat} (hT : 0 < T) (hc : c < tilesN n T) : c * T < n := by
  unfold tilesN at hc
  have h : (c + 1) * T ≤ n + T - 1 := by
    have := Nat.mul_le_mul_right T (show c + 1 ≤ (n + T - 1) / T by omega)
    exact Nat.le_trans this (Nat.div_mul_le_self _ _)
  rw [Nat.succ_mul] at h
  omega
theorem divT {T v r : Nat} (hT : 0 < T) : v / T = r ↔ r * T ≤ v ∧ v < r * T + T := by
  constructor
  · rintro rfl
    have h := Nat.div_add_mod v T
    have h2 := Nat.mod_lt v hT
    rw [Nat.mul_comm] at h
    omega
  · rintro ⟨h1, h2⟩
    have a : r ≤ v / T := (Nat.le_div_iff_mul_le hT).2 h1
    have b : v / T < r + 1 := (Nat.div_lt_iff_lt_mul hT).2 (by rw [Nat.succ_mul]; exact h2)
    omega
theorem pair_one {a b c d t : Nat} (hb : b < t) (hd : d < t) (h : a * t + b = c * t + d) : a = c ∧ b = d := by
  have e : a = c := by
    have h1 : (a * t + b) / t = a := by rw [Nat.mul_comm, Nat.mul_add_div (by omega), Nat.div_eq_of_lt hb, Nat.add_zero]
    have h2 : (c * t + d) / t = c := by rw [Nat.mul_comm, Nat.mul_add_div (by omega), Nat.div_eq_of_lt hd, Nat.add_zero]
    rw [← h1, h, h2]
  subst e
  exact ⟨rfl, by omega⟩
theorem tk_iff {W T r c j : Nat} (hW : 0 < W) (hT : 0 < T) (hc : c < tilesN W T) : tkF W T j = r * tilesN W T + c ↔ (r * T ≤ j / W ∧ j / W < r * T + T) ∧ (c * T ≤ j % W ∧ j % W < c * T + T) := by
  have hm := tiles_lt hT (Nat.mod_lt j hW)
  rw [← divT hT, ← divT hT]
  unfold tkF
  constructor
  · intro h
    exact pair_one hm hc h
  · rintro ⟨h1, h2⟩
    rw [h1, h2]
theorem row_at {W v u : Nat} (h : u < W) : (v * W + u) / W = v ∧ (v * W + u) % W = u := by
  refine ⟨?_, ?_⟩
  · rw [Nat.mul_comm, Nat.mul_add_div (by omega), Nat.div_eq_of_lt h, Nat.add_zero]
  · rw [Nat.mul_add_mod_self_right, Nat.mod_eq_of_lt h]
section
variable {W H T r c : Nat} (f : Nat → Int)
/-- Ahead of the tile's first pixel there is none of it. -/
theorem tile_start (hW : 0 < W) (hT : 0 < T) (hc : c < tilesN W T) : tlL (tkF W T) f (r * tilesN W T + c) (r * T * W + c * T) = [] := by
  have hcw := tiles_at hT hc
  refine (tlL_skip (Nat.zero_le _) (fun j _ hj => ?_)).trans rfl
  rw [Ne, tk_iff hW hT hc]
  rintro ⟨⟨h1, _⟩, h2, _⟩
  have e := Nat.div_add_mod j W
  rw [Nat.mul_comm] at e
  have h3 := Nat.mul_le_mul_right W h1
  omega
/-- A pixel of the tile. -/
theorem tile_hit {v u : Nat} (hW : 0 < W) (hT : 0 < T) (hc : c < tilesN W T) (h1 : r * T ≤ v) (h2 : v < r * T + T) (h3 : c * T ≤ u) (h4 : u < c * T + T) (h5 : u < W) :
    tlL (tkF W T) f (r * tilesN W T + c) (v * W + u + 1) = tlL (tkF W T) f (r * tilesN W T + c) (v * W + u) ++ [f (v * W + u)] := by
  obtain ⟨e1, e2⟩ := row_at (v := v) h5
  exact tlL_hit ((tk_iff hW hT hc).2 (by rw [e1, e2]; exact ⟨⟨h1, h2⟩, h3, h4⟩))
/-- From the tile's end in a row to its begin in the next. -/
theorem tile_row {v u : Nat} (hW : 0 < W) (hT : 0 < T) (hc : c < tilesN W T) (hu : u = c * T + T ∨ u = W) (hu2 : u ≤ W) (hcu : c * T ≤ u) :
    tlL (tkF W T) f (r * tilesN W T + c) ((v + 1) * W + c * T) = tlL (tkF W T) f (r * tilesN W T + c) (v * W + u) := by
  have hcw := tiles_at hT hc
  refine tlL_skip (by rw [Nat.succ_mul]; omega) (fun j h1 h2 => ?_)
  rw [Ne, tk_iff hW hT hc]
  rintro ⟨_, h5, h6⟩
  have e := Nat.div_add_mod j W
  rw [Nat.mul_comm] at e
  have hm := Nat.mod_lt j hW
  have hv : j / W = v ∨ j / W = v + 1 := by
    have a : v ≤ j / W := (Nat.le_div_iff_mul_le hW).2 (by omega)
    have b : j / W < v + 2 := (Nat.div_lt_iff_lt_mul hW).2 (by rw [Nat.add_mul]; rw [Nat.succ_mul] at h2; omega)
    omega
  rcases hv with hv | hv
  · rw [hv] at e; omega
  · rw [hv] at e; omega
/-- Behind the tile's last row there is none of it. -/
theorem tile_end {v : Nat} (hW : 0 < W) (hT : 0 < T) (hc : c < tilesN W T) (hv : v = r * T + T ∨ v = H) (hvH : v ≤ H) (hcH : v = H ∨ v < H) :
    tlL (tkF W T) f (r * tilesN W T + c) (H * W) = tlL (tkF W T) f (r * tilesN W T + c) (min (v * W + c * T) (H * W)) := by
  have hcw := tiles_at hT hc
  refine tlL_skip (Nat.min_le_right _ _) (fun j h1 h2 => ?_)
  rw [Ne, tk_iff hW hT hc]
  rintro ⟨⟨h3, h4⟩, h5, h6⟩
  rcases hv with hv | hv
  · have hvj : v ≤ j / W := (Nat.le_div_iff_mul_le hW).2 (by
      have := Nat.mul_le_mul_right W hvH
      omega)
    omega
  · subst hv
    omega
end
end Go.Proofs.YthbekddpnkammaaGreatDoor
