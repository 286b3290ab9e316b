/- spots.Find: what its walk wants of plain laws. -/
import Derived.Test.YthbekddpnkammaaGreatDoorPlc
import Derived.Test.YthbekddpnkammaaGreatDoorDel
import Derived.Test.YthbekddpnkammaaGreatDoorLabelW
namespace Go.Proofs.YthbekddpnkammaaGreatDoor
open Go.RowKit

theorem fi_lit {lit : Nat → Bool} {W n : Nat} {M : Nat → Nat} (h : FI lit W n n M) {k : Nat} (hk : k < n) : M k ≤ rc lit W n n ∧ (M k ≠ 0 → lit k = true) := by
  obtain ⟨h1, _⟩ := h k hk
  by_cases c : M k = 0
  · exact ⟨by omega, fun h => absurd c h⟩
  · obtain ⟨r, a, b, d, e⟩ := h1 c
    exact ⟨by rw [e]; exact rc_mono (by omega), fun _ => d.lit2.1⟩
def zero9 : Value := .agg #[.int .i64 0, .int .i64 0, .int .i64 0, .int .i64 0, .int .i64 0, .int .i64 0, .int .i64 0, .int .i64 0, .int .i64 0]
theorem info_spot : (Tryz.prog.info? 36).map (fun i => (i.zero, i.size, i.bytes)) = some (some zero9, 9, 72) := by kernel_rfl
theorem spots_made {w : World} {base g m : Nat} (h : w.ownsRow base 36 9 (.slice (some ⟨g, 0, none⟩) m m) m (madeCells zero9.cells (m * 9)).toList) : OutZ w g (m * 9) (cellZ fun _ => Sp.nil) := by
  intro j hj
  refine ⟨?_, h.frozenAt j⟩
  rw [h.cellAt j hj]
  have e : zero9.cells = #[.int .i64 0, .int .i64 0, .int .i64 0, .int .i64 0, .int .i64 0, .int .i64 0, .int .i64 0, .int .i64 0, .int .i64 0] := rfl
  rw [e]
  unfold madeCells cellZ
  rw [Array.toList_map, List.getElem?_map, Array.toList_range, List.getElem?_range hj, Option.map_some]
  have h9 : j % 9 < 9 := Nat.mod_lt _ (by decide)
  simp only [List.size_toArray, List.length_cons, List.length_nil, Nat.zero_add]
  generalize j % 9 = t at *
  rcases t with _ | _ | _ | _ | _ | _ | _ | _ | _ | t
  case succ.succ.succ.succ.succ.succ.succ.succ.succ => omega
  all_goals rfl
/-- The spots that are found. -/
def foundL (W : Nat) (l : Nat → Int) (M : Nat → Nat) (n m : Nat) (least : Int) : List Sp := placeAll ((stayL (fun p => stS W l M p n) least m).map starS)
theorem stayL_mem {S : Nat → Sp} {least : Int} {j : Nat} {s : Sp} (h : s ∈ stayL S least j) : ∃ p, p < j ∧ s = S p ∧ least ≤ s.P := by
  induction j with
  | zero => cases h
  | succ j ih =>
    rw [stayL, List.mem_append] at h
    rcases h with h | h
    · obtain ⟨p, h1, h2⟩ := ih h
      exact ⟨p, by omega, h2⟩
    · split at h
      · cases h
      · rename_i c
        rw [List.mem_singleton] at h
        exact ⟨j, by omega, h, by rw [h]; omega⟩
theorem getD_mem {L : List Sp} {p : Nat} (h : p < L.length) : L.getD p Sp.nil ∈ L := by
  rw [List.getD_eq_getElem?_getD, List.getElem?_eq_getElem h]
  exact List.getElem_mem h
theorem map_getD (L : List Sp) : (List.range L.length).map (fun p => starS (L.getD p Sp.nil)) = L.map starS := by
  apply List.ext_getElem?
  intro i
  rw [List.getElem?_map, List.getElem?_map]
  by_cases h : i < L.length
  · rw [List.getElem?_range h, List.getElem?_eq_getElem h, Option.map_some, Option.map_some, List.getD_eq_getElem?_getD, List.getElem?_eq_getElem h]
    rfl
  · rw [List.getElem?_eq_none (by simp; omega), List.getElem?_eq_none (by omega)]
    rfl
end Go.Proofs.YthbekddpnkammaaGreatDoor
