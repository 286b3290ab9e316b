/- spots.Find: what its walk wants of plain laws. -/
import Derived.Test.YthbekddpnkammaaDoorPlc
import Derived.Test.YthbekddpnkammaaDoorDel
import Derived.Test.YthbekddpnkammaaDoorLabelW
import Derived.Maps.AppendAt
import Derived.Laws.AppendOwnNone
import Derived.Deep.Onto
import Derived.Deep.AppendLies
import Derived.BigQuiet
namespace Go.Proofs.YthbekddpnkammaaDoor
open Go.RowKit

theorem fi_lit {lit : Nat → Bool} {W n : Nat} {M : Nat → Nat} (h : FI lit W n n M) {k : Nat} (hk : k < n) : M k ≤ rc lit W n n ∧ (M k ≠ 0 → lit k = true) := by
  obtain ⟨h1, _⟩ := h k hk
  by_cases c : M k = 0
  · exact ⟨by omega, fun h => absurd c h⟩
  · obtain ⟨r, a, b, d, e⟩ := h1 c
    exact ⟨by rw [e]; exact rc_mono (by omega), fun _ => d.lit2.1⟩
def zero9 : Value := .agg #[.int .i64 0, .int .i64 0, .int .i64 0, .int .i64 0, .int .i64 0, .int .i64 0, .int .i64 0, .int .i64 0, .int .i64 0]
theorem info_spot : (Tryd.prog.info? 37).map (fun i => (i.zero, i.size, i.bytes)) = some (some zero9, 9, 72) := by kernel_rfl
theorem spots_made {w : World} {base g m : Nat} (h : w.ownsRow base 37 9 (.slice (some ⟨g, 0, none⟩) m m) m (madeCells zero9.cells (m * 9)).toList) : OutZ w g (m * 9) (cellZ fun _ => Sp.nil) := by
  intro j hj
  refine ⟨?_, h.frozenAt j⟩
  rw [h.cellAt j hj]
  have e : zero9.cells = #[.int .i64 0, .int .i64 0, .int .i64 0, .int .i64 0, .int .i64 0, .int .i64 0, .int .i64 0, .int .i64 0, .int .i64 0] := rfl
  rw [e]
  unfold madeCells cellZ
  rw [Array.toList_map, List.getElem?_map, Array.toList_range, List.getElem?_range hj, Option.map_some]
  have h9 : j % 9 < 9 := Nat.mod_lt _ (by decide)
  simp only [List.size_toArray, List.length_cons, List.length_nil, Nat.zero_add]
  generalize j % 9 = t at *
  rcases t with _ | _ | _ | _ | _ | _ | _ | _ | _ | t
  case succ.succ.succ.succ.succ.succ.succ.succ.succ => omega
  all_goals rfl
/-- The spots that are found. -/
def foundL (W : Nat) (l : Nat → Int) (M : Nat → Nat) (n m : Nat) (least : Int) : List Sp := placeAll ((stayL (fun p => stS W l M p n) least m).map starS)
theorem stayL_mem {S : Nat → Sp} {least : Int} {j : Nat} {s : Sp} (h : s ∈ stayL S least j) : ∃ p, p < j ∧ s = S p ∧ least ≤ s.P := by
  induction j with
  | zero => cases h
  | succ j ih =>
    rw [stayL, List.mem_append] at h
    rcases h with h | h
    · obtain ⟨p, h1, h2⟩ := ih h
      exact ⟨p, by omega, h2⟩
    · split at h
      · cases h
      · rename_i c
        rw [List.mem_singleton] at h
        exact ⟨j, by omega, h, by rw [h]; omega⟩
theorem getD_mem {L : List Sp} {p : Nat} (h : p < L.length) : L.getD p Sp.nil ∈ L := by
  rw [List.getD_eq_getElem?_getD, List.getElem?_eq_getElem h]
  exact List.getElem_mem h
theorem map_getD (L : List Sp) : (List.range L.length).map (fun p => starS (L.getD p Sp.nil)) = L.map starS := by
  apply List.ext_getElem?
  intro i
  rw [List.getElem?_map, List.getElem?_map]
  by_cases h : i < L.length
  · rw [List.getElem?_range h, List.getElem?_eq_getElem h, Option.map_some, Option.map_some, List.getD_eq_getElem?_getD, List.getElem?_eq_getElem h]
    rfl
  · rw [List.getElem?_eq_none (by simp; omega), List.getElem?_eq_none (by omega)]
    rfl
end Go.Proofs.YthbekddpnkammaaDoor

namespace Go.Proofs.YthbekddpnkammaaDoor
open Go.RowKit

section
variable (W H : Nat) (l : Nat → Int) (Z : Nat → Int)
/-- One pixel more, as the reference counts. -/
def addR (i : Nat) (s : Sp) : Sp := ⟨if ((i % W : Nat) : Int) < s.L then ((i % W : Nat) : Int) else s.L, if ((i / W : Nat) : Int) < s.T then ((i / W : Nat) : Int) else s.T, if s.R < ((i % W : Nat) : Int) then ((i % W : Nat) : Int) else s.R, if s.Lo < ((i / W : Nat) : Int) then ((i / W : Nat) : Int) else s.Lo, s.P + 1, s.Li + l i, s.X + (1024 * ((i % W : Nat) : Int) + 512) * l i, s.Y + (1024 * ((i / W : Nat) : Int) + 512) * l i, s.SL⟩
/-- Part p + 1 as the reference has it, i pixels looked at. -/
def rfS (p : Nat) : Nat → Sp
  | 0 => ⟨W, H, -1, -1, 0, 0, 0, 0, 0⟩
  | i + 1 => if Z i = (p : Int) + 1 then addR W l i (rfS p i) else rfS p i
theorem rfS_hit {p i : Nat} (h : Z i = (p : Int) + 1) : rfS W H l Z p (i + 1) = addR W l i (rfS W H l Z p i) := by rw [rfS, if_pos h]
theorem rfS_miss {p i : Nat} (h : Z i ≠ (p : Int) + 1) : rfS W H l Z p (i + 1) = rfS W H l Z p i := by rw [rfS, if_neg h]
end
/-- Both counts, side by side. -/
structure Both (W i : Nat) (r s r0 : Sp) : Prop where
  none : s.P = 0 → r = r0 ∧ s = Sp.nil
  some : s.P ≠ 0 → 0 < s.P ∧ r = s ∧ s.T ≤ s.Lo ∧ ∀ j, i ≤ j → s.Lo ≤ ((j / W : Nat) : Int)
theorem both_any {W H n : Nat} {l Z : Nat → Int} {M : Nat → Nat} (hW : 1 ≤ W) (hn : n = H * W) (hZ : ∀ i, i < n → Z i = (M i : Int)) (p : Nat) : ∀ i, i ≤ n → Both W i (rfS W H l Z p i) (stS W l M p i) (rfS W H l Z p 0)
  | 0, _ => ⟨fun _ => ⟨rfl, rfl⟩, fun h => absurd rfl h⟩
  | i + 1, hi => by
    have ih := both_any (l := l) (Z := Z) (M := M) hW hn hZ p i (by omega)
    have hz := hZ i (by omega)
    by_cases c : M i = p + 1
    · have c' : Z i = (p : Int) + 1 := by rw [hz, c]; push_cast; rfl
      have hmono : ∀ j, i + 1 ≤ j → ((i / W : Nat) : Int) ≤ ((j / W : Nat) : Int) := fun j hj => by
        have := Nat.div_le_div_right (c := W) (show i ≤ j by omega)
        omega
      have hx : i % W < W := Nat.mod_lt i (by omega)
      have hy : i / W < H := (Nat.div_lt_iff_lt_mul (by omega)).2 (by omega)
      rw [rfS_hit _ _ _ _ c', stS_hit _ _ _ c]
      unfold updS
      by_cases h0 : (stS W l M p i).P = 0
      · obtain ⟨e1, e2⟩ := ih.none h0
        rw [e1, e2]
        have e3 : (if Sp.nil.P = 0 then firstS W i else Sp.nil) = firstS W i := if_pos rfl
        rw [e3]
        have e4 : rfS W H l Z p 0 = ⟨W, H, -1, -1, 0, 0, 0, 0, 0⟩ := rfl
        have e5 : addR W l i ⟨W, H, -1, -1, 0, 0, 0, 0, 0⟩ = addS W l i (firstS W i) := by
          unfold addR addS firstS
          rw [if_pos (show ((i % W : Nat) : Int) < (W : Int) by omega), if_pos (show ((i / W : Nat) : Int) < (H : Int) by omega), if_pos (show (-1 : Int) < ((i % W : Nat) : Int) by omega), if_pos (show (-1 : Int) < ((i / W : Nat) : Int) from Int.lt_of_lt_of_le (by decide) (Int.natCast_nonneg _))]
          simp only [Int.min_self, Int.max_self]
        rw [e4, e5]
        refine ⟨fun h => ?_, fun _ => ⟨?_, rfl, ?_, ?_⟩⟩
        · exact absurd h (by show ¬ ((0 : Int) + 1 = 0); decide)
        · show (0 : Int) < 0 + 1; decide
        · exact Int.le_refl _
        · exact hmono
      · obtain ⟨e0, e1, e2, e3⟩ := ih.some h0
        rw [if_neg h0, e1]
        have hlo := e3 i (Nat.le_refl _)
        generalize stS W l M p i = s at *
        have e5 : addR W l i s = addS W l i s := by
          unfold addR addS
          congr 1
          · omega
          · rw [if_neg (by omega)]
          · omega
          · omega
        rw [e5]
        refine ⟨fun h => ?_, fun _ => ⟨?_, rfl, ?_, ?_⟩⟩
        · have : s.P + 1 = 0 := h
          omega
        · show 0 < s.P + 1; omega
        · show s.T ≤ ((i / W : Nat) : Int); omega
        · exact hmono
    · have c' : Z i ≠ (p : Int) + 1 := by rw [hz]; omega
      rw [rfS_miss _ _ _ _ c', stS_miss _ _ _ c]
      exact ⟨ih.none, fun h => by
        obtain ⟨a, b, d, e⟩ := ih.some h
        exact ⟨a, b, d, fun j hj => e j (by omega)⟩⟩
theorem rfS_few {W H n : Nat} {l Z : Nat → Int} {M : Nat → Nat} (hW : 1 ≤ W) (hn : n = H * W) (hZ : ∀ i, i < n → Z i = (M i : Int)) (p : Nat) : (rfS W H l Z p n).P = (stS W l M p n).P ∧ ((stS W l M p n).P ≠ 0 → rfS W H l Z p n = stS W l M p n) := by
  have h := both_any (l := l) (Z := Z) (M := M) hW hn hZ p n (Nat.le_refl _)
  by_cases h0 : (stS W l M p n).P = 0
  · obtain ⟨e1, e2⟩ := h.none h0
    rw [e1, e2]
    exact ⟨rfl, fun h => absurd rfl h⟩
  · obtain ⟨_, e1, _, _⟩ := h.some h0
    exact ⟨by rw [e1], fun _ => e1⟩
/-- The reference's list, part by part. -/
def refL (R : Nat → Sp) (least : Int) : Nat → List Sp
  | 0 => []
  | p + 1 => if (R p).P < least then refL R least p else placeL (refL R least p) (starS (R p))
theorem refL_eq {R S : Nat → Sp} {least : Int} (hl : 1 ≤ least) : ∀ m, (∀ p, p < m → (R p).P = (S p).P ∧ ((S p).P ≠ 0 → R p = S p)) → refL R least m = placeAll ((stayL S least m).map starS)
  | 0, _ => rfl
  | p + 1, h => by
    have ih := refL_eq (R := R) (S := S) hl p (fun q hq => h q (by omega))
    obtain ⟨h1, h2⟩ := h p (by omega)
    rw [refL]
    by_cases c : (S p).P < least
    · rw [if_pos (by rw [h1]; exact c), stayL_drop c, ih]
    · rw [if_neg (by rw [h1]; exact c), stayL_keep c, ih, h2 (by omega)]
      unfold placeAll
      rw [List.map_append, List.foldl_append]
      rfl
end Go.Proofs.YthbekddpnkammaaDoor

namespace Go.Proofs.YthbekddpnkammaaDoor
open Go.RowKit

/-- The cells of a list of spots. -/
def encL (L : List Sp) : List Value := (List.range (L.length * 9)).map fun j => .int .i64 (cellZ (fun p => L.getD p Sp.nil) j)
theorem encL_len (L : List Sp) : (encL L).length = L.length * 9 := by unfold encL; rw [List.length_map, List.length_range]
theorem encL_get (L : List Sp) {j : Nat} (h : j < L.length * 9) : (encL L)[j]? = some (.int .i64 (cellZ (fun p => L.getD p Sp.nil) j)) := by
  unfold encL
  rw [List.getElem?_map, List.getElem?_range h]
  rfl
theorem encL_no (L : List Sp) {j : Nat} (h : L.length * 9 ≤ j) : (encL L)[j]? = none := List.getElem?_eq_none (by rw [encL_len]; exact h)
theorem encL_app (A B : List Sp) : encL A ++ encL B = encL (A ++ B) := by
  apply List.ext_getElem?
  intro j
  by_cases h : j < A.length * 9
  · rw [List.getElem?_append_left (by rw [encL_len]; exact h), encL_get _ h, encL_get _ (by rw [List.length_append]; omega)]
    congr 2
    show (A.getD (j / 9) Sp.nil).fld (j % 9) = ((A ++ B).getD (j / 9) Sp.nil).fld (j % 9)
    rw [List.getD_eq_getElem?_getD, List.getD_eq_getElem?_getD, List.getElem?_append_left (by omega)]
  · rw [List.getElem?_append_right (by rw [encL_len]; omega), encL_len]
    by_cases h2 : j < (A ++ B).length * 9
    · have h3 : j - A.length * 9 < B.length * 9 := by rw [List.length_append] at h2; omega
      rw [encL_get _ h3, encL_get _ h2]
      congr 2
      show (B.getD ((j - A.length * 9) / 9) Sp.nil).fld ((j - A.length * 9) % 9) = ((A ++ B).getD (j / 9) Sp.nil).fld (j % 9)
      rw [List.getD_eq_getElem?_getD, List.getD_eq_getElem?_getD, List.getElem?_append_right (by omega), show (j - A.length * 9) / 9 = j / 9 - A.length by omega, show (j - A.length * 9) % 9 = j % 9 by omega]
    · rw [encL_no _ (by rw [List.length_append] at h2; omega), encL_no _ (by omega)]
theorem encL_one (s : Sp) : encL [s] = encSp s := by
  apply List.ext_getElem?
  intro j
  by_cases h : j < 9
  · rw [encL_get _ (by simpa using h)]
    rcases j with _ | _ | _ | _ | _ | _ | _ | _ | _ | j
    case succ.succ.succ.succ.succ.succ.succ.succ.succ => omega
    all_goals rfl
  · rw [encL_no _ (by simpa using h)]
    exact (List.getElem?_eq_none (by show 9 ≤ j; omega)).symm
theorem encL_cells (L : List Sp) : ∀ u ∈ encL L, u.oneCell' = true := by
  intro u hu
  unfold encL at hu
  obtain ⟨j, _, rfl⟩ := List.mem_map.1 hu
  rfl
theorem encSp_cells (s : Sp) : ∀ u ∈ encSp s, u.oneCell' = true := by rw [← encL_one]; exact encL_cells _
theorem own_outZ {w : World} {base e g cap n : Nat} {L : List Sp} (h : w.ownsRow base e 9 (.slice (some ⟨g, 0, none⟩) n cap) n (encL L)) (hn : n = L.length) : OutZ w g (n * 9) (cellZ fun p => L.getD p Sp.nil) := fun j hj => by
  refine ⟨?_, h.frozenAt j⟩
  rw [h.cellAt j hj]
  exact encL_get L (by omega)
theorem enc_drop (L : List Sp) {k j : Nat} (hj : j < (L.length - k) * 9) : (encL (L.drop k))[j]? = some (.int .i64 (cellZ (fun p => L.getD p Sp.nil) (k * 9 + j))) := by
  rw [encL_get _ (by rw [List.length_drop]; exact hj)]
  congr 2
  show ((L.drop k).getD (j / 9) Sp.nil).fld (j % 9) = (L.getD ((k * 9 + j) / 9) Sp.nil).fld ((k * 9 + j) % 9)
  rw [List.getD_eq_getElem?_getD, List.getD_eq_getElem?_getD, List.getElem?_drop, show (k * 9 + j) / 9 = k + j / 9 by omega, show (k * 9 + j) % 9 = j % 9 by omega]
theorem take_succ_getD (L : List Sp) {k : Nat} (hk : k < L.length) : L.take (k + 1) = L.take k ++ [L.getD k Sp.nil] := by
  rw [List.take_add_one, List.getElem?_eq_getElem hk, List.getD_eq_getElem?_getD, List.getElem?_eq_getElem hk]
  rfl
theorem placeL_at (L : List Sp) (s : Sp) {k : Nat} (hk : k ≤ L.length) (h : ∀ j, j < k → s.Li ≤ (L.getD j Sp.nil).Li) (h2 : k < L.length → (L.getD k Sp.nil).Li < s.Li) : placeL L s = L.take k ++ s :: L.drop k := by
  have e1 : L.takeWhile (fun x => decide (s.Li ≤ x.Li)) = L.take k ∧ L.dropWhile (fun x => decide (s.Li ≤ x.Li)) = L.drop k := by
    induction L generalizing k with
    | nil =>
      obtain rfl : k = 0 := by simpa using hk
      exact ⟨rfl, rfl⟩
    | cons x L ih =>
      cases k with
      | zero =>
        have hx : x.Li < s.Li := by have := h2 (by simp); simpa using this
        have hd : decide (s.Li ≤ x.Li) = false := by simp; omega
        rw [List.takeWhile_cons, List.dropWhile_cons, hd]
        exact ⟨rfl, rfl⟩
      | succ k =>
        have hx : s.Li ≤ x.Li := by have := h 0 (by omega); simpa using this
        have hd : decide (s.Li ≤ x.Li) = true := by simp; omega
        have := ih (k := k) (by simp at hk; omega) (fun j hj => by have := h (j + 1) (by omega); simpa using this) (fun hk => by have := h2 (by simp; omega); simpa using this)
        rw [List.takeWhile_cons, List.dropWhile_cons, hd, List.take_succ_cons, List.drop_succ_cons, if_pos rfl, if_pos rfl, this.1, this.2]
        exact ⟨rfl, rfl⟩
  unfold placeL
  rw [e1.1, e1.2]
theorem info_spotR : (Tryd.prog.info? 54).map (fun i => (i.zero, i.size, i.bytes)) = some (some zero9, 9, 72) := by kernel_rfl
theorem add_lit9 (g o j : Nat) : (⟨g, o, none⟩ : Addr).add j = ⟨g, o + j, none⟩ := by unfold Addr.add; split <;> simp_all
/-- A spot in a block of its own. -/
def Box9 (w : World) (g : Nat) (s : Sp) : Prop := w.cell? ⟨g, 0, none⟩ = some (.int .i64 s.L) ∧ w.cell? ⟨g, 1, none⟩ = some (.int .i64 s.T) ∧ w.cell? ⟨g, 2, none⟩ = some (.int .i64 s.R) ∧ w.cell? ⟨g, 3, none⟩ = some (.int .i64 s.Lo) ∧ w.cell? ⟨g, 4, none⟩ = some (.int .i64 s.P) ∧ w.cell? ⟨g, 5, none⟩ = some (.int .i64 s.Li) ∧ w.cell? ⟨g, 6, none⟩ = some (.int .i64 s.X) ∧ w.cell? ⟨g, 7, none⟩ = some (.int .i64 s.Y) ∧ w.cell? ⟨g, 8, none⟩ = some (.int .i64 s.SL)
theorem box9_new (w : World) (s : Sp) (t : TypeId) : Box9 (w.alloc (.cells #[.int .i64 s.L, .int .i64 s.T, .int .i64 s.R, .int .i64 s.Lo, .int .i64 s.P, .int .i64 s.Li, .int .i64 s.X, .int .i64 s.Y, .int .i64 s.SL] t)) w.heap.size s := by
  refine ⟨?_, ?_, ?_, ?_, ?_, ?_, ?_, ?_, ?_⟩ <;> simp
theorem Box9.below {w w' : World} {g : Nat} {s : Sp} (h : Box9 w g s) (hb : Below w.heap.size w w') : Box9 w' g s := by
  obtain ⟨h0, h1, h2, h3, h4, h5, h6, h7, h8⟩ := h
  have hl : g < w.heap.size := cell_lt h0
  exact ⟨(hb.cell hl).trans h0, (hb.cell hl).trans h1, (hb.cell hl).trans h2, (hb.cell hl).trans h3, (hb.cell hl).trans h4, (hb.cell hl).trans h5, (hb.cell hl).trans h6, (hb.cell hl).trans h7, (hb.cell hl).trans h8⟩
/-- Nine cells laid to be appended. -/
theorem news9 (w : World) (s : Sp) (t : TypeId) : ∀ j u, (encSp s)[j]? = some u → (w.alloc (.cells #[.int .i64 s.L, .int .i64 s.T, .int .i64 s.R, .int .i64 s.Lo, .int .i64 s.P, .int .i64 s.Li, .int .i64 s.X, .int .i64 s.Y, .int .i64 s.SL] t)).cell? ((⟨w.heap.size, 0, none⟩ : Addr).add j) = some u := fun j u hu => by
  rw [add_lit9, cell_of_row _ w.heap.size _ _ t (0, 0) (heap_alloc_new w _), Nat.zero_add, List.getElem?_toArray]
  exact hu
/-- A spot more behind a row of spots. -/
theorem own_more {w' : World} {base e n : Nat} {v : Value} {A : List Sp} {s : Sp} {ys : List Value} (h : w'.ownsRow base e 9 v n ys) (hy : ys = encL A ++ encSp s) : w'.ownsRow base e 9 v n (encL (A ++ [s])) := by
  rw [hy, ← encL_one, encL_app] at h
  exact h
/-- Behind an append. -/
theorem below_app {B : Nat} {w wd w5 : World} {o : Obj} {row : Option Nat} (h : Below B w wd) (hB : B ≤ wd.heap.size) (hg : (wd.alloc o).grownBy w5 row) (hr : ∀ k, row = some k → B ≤ k) : Below B w w5 :=
  (h.alloc hB o).grown hg (by simp; omega) hr
theorem own_drewN {w : World} {base e size n q : Nat} {v : Value} {xs : List Value} (h : w.ownsRow base e size v n xs) : (w.drewN q).ownsRow base e size v n xs := by
  refine ⟨h.1, ?_⟩
  rcases h.2 with h | ⟨g, cap, cur, h1, h2, h3, h4⟩
  · exact Or.inl h
  · exact Or.inr ⟨g, cap, cur, h1, h2, by simpa using h3, h4⟩
theorem Box9.kept {w w' : World} {g : Nat} {s : Sp} {row : Option Nat} (h : Box9 w g s) (hg : w.grownBy w' row) (hne : ∀ b, row = some b → b ≠ g) : Box9 w' g s := by
  obtain ⟨h0, h1, h2, h3, h4, h5, h6, h7, h8⟩ := h
  have hn : some g ≠ row := fun e => hne g e.symm rfl
  exact ⟨hg.cell h0 hn, hg.cell h1 hn, hg.cell h2 hn, hg.cell h3 hn, hg.cell h4 hn, hg.cell h5 hn, hg.cell h6 hn, hg.cell h7 hn, hg.cell h8 hn⟩
set_option maxRecDepth 10000 in
set_option maxHeartbeats 4000000 in
/-- A spot put into an empty list. -/
theorem placed_nil (s : Sp) (w : World) :
    Calls Tryd.prog 31 #[.slice none 0 0, aggSp s] w fun e w' => ∃ v', e = .returned v' ∧ w'.ownsRow w.heap.size 54 9 v' 1 (encL [s]) ∧ Below w.heap.size w w' := by
  obtain ⟨i0, hi, hz0, hz1, hz2⟩ := info_parts info_spotR
  have hz9 : zero9.cells.size = 9 := rfl
  have HX := Lib.hid (box9_new w s 54)
  have HB0 := Lib.hid ((Below.refl _ _).alloc (w := w) (Nat.le_refl _) (.cells #[Value.int .i64 s.L, .int .i64 s.T, .int .i64 s.R, .int .i64 s.Lo, .int .i64 s.P, .int .i64 s.Li, .int .i64 s.X, .int .i64 s.Y, .int .i64 s.SL] 54))
  unfold aggSp
  go_enter Tryd.func31, Tryd.ntmps31
  go_wp2
  go_loopw [5, 6] (fun o i wr => o = .slice none 0 0 ∧ i = .int .i64 0 ∧ Hid (Box9 wr w.heap.size s) ∧ Hid (Below w.heap.size w wr)) (fun _ _ _ => 0)
  case atStart => exact ⟨rfl, rfl, HX, HB0⟩
  case round =>
    clear HX HB0
    obtain ⟨rfl, rfl, HX, HB⟩ := hrel
    have d0 : decide ((0 : Int) < 0) = false := by decide
    go_wp2
    go_quiet (fail)
    have HX1 : Hid (Box9 (wr.drewN nq) w.heap.size s) := Lib.hid (by
      obtain ⟨s0, s1, s2, s3, s4, s5, s6, s7, s8⟩ := HX.out
      refine ⟨?_, ?_, ?_, ?_, ?_, ?_, ?_, ?_, ?_⟩ <;> simpa)
    have HB1 := Lib.hid (below_drewN HB.out nq)
    clear HX HB
    generalize wr.drewN nq = wd at *
    obtain ⟨s0, s1, s2, s3, s4, s5, s6, s7, s8⟩ := HX1.out
    clear HX1
    have hsz := HB1.out.size
    go_wp2_with (first
      | (at_builtin; refine wpList_append_lies _ rfl _ _ 50 rfl w.heap.size 54 i0 zero9 9 72 Tryd.underlying50 hi hz0 hz1 hz2 rfl (by decide) (.slice none 0 0) 0 [] rfl (World.ownsRow_nil _ _ _ _) ⟨wd.heap.size, 0, none⟩ 1 1 (encSp s) rfl rfl (news9 _ _ _) (encSp_cells _) (by decide) (by decide) (by decide) (by simp; omega) _ rfl ?_; intro g cap w5 hown hgrow hat hlt; rw [List.nil_append, Nat.zero_add] at hown; have HO := Lib.hid hown; have HB5 := Lib.hid (below_app HB1.out hsz hgrow (fun j hj => by cases hj)); clear hown hgrow hat hlt s0 s1 s2 s3 s4 s5 s6 s7 s8)
      | (at_builtin; refine wpList_append_own_none rfl _ _ 50 rfl w.heap.size 54 i0 9 Tryd.underlying50 hi (.slice (some ⟨g, 0, none⟩) 1 cap) 1 (encSp s) rfl HO.out rfl ?_)
      | fail)
    go_ret
    refine ⟨_, rfl, ?_, HB5.out⟩
    rw [encL_one]; exact HO.out
theorem rest_cells {W : World} {L : List Sp} {g n k : Nat} (h : OutZ W g (n * 9) (cellZ fun p => L.getD p Sp.nil)) (hn : n = L.length) (hk : k ≤ n) : ∀ j u, (encL (L.drop k))[j]? = some u → W.cell? ((⟨g, k * 9, none⟩ : Addr).add j) = some u := fun j u hu => by
  have hj : j < (L.length - k) * 9 := by
    have := (List.getElem?_eq_some_iff.1 hu).1
    rw [encL_len, List.length_drop] at this
    exact this
  rw [enc_drop L hj] at hu
  rw [add_lit9, ← hu]
  exact (h (k * 9 + j) (by omega)).1
theorem own_done {w : World} {base base' e n m : Nat} {v : Value} {ys zs : List Value} (h : w.ownsRow base' e 9 v n ys) (hb : base ≤ base') (hy : ys = zs) (hn : n = m) : w.ownsRow base e 9 v m zs := by
  subst hn hy
  exact h.mono hb
set_option maxRecDepth 10000 in
set_option maxHeartbeats 8000000 in
/-- A spot put into a list. -/
theorem placed_some (L : List Sp) (s : Sp) (g n cap : Nat) (hn : n = L.length) (hn2 : n ≤ 65536) (hcap : n ≤ cap) (w : World) (h : OutZ w g (n * 9) (cellZ fun p => L.getD p Sp.nil)) :
    Calls Tryd.prog 31 #[.slice (some ⟨g, 0, none⟩) n cap, aggSp s] w fun e w' => ∃ v', e = .returned v' ∧ w'.ownsRow w.heap.size 54 9 v' (n + 1) (encL (placeL L s)) ∧ Below w.heap.size w w' := by
  obtain ⟨i0, hi, hz0, hz1, hz2⟩ := info_parts info_spotR
  have hz9 : zero9.cells.size = 9 := rfl
  have HX := Lib.hid (box9_new w s 54)
  have HB0 := Lib.hid ((Below.refl _ _).alloc (w := w) (Nat.le_refl _) (.cells #[Value.int .i64 s.L, .int .i64 s.T, .int .i64 s.R, .int .i64 s.Lo, .int .i64 s.P, .int .i64 s.Li, .int .i64 s.X, .int .i64 s.Y, .int .i64 s.SL] 54))
  have HCL : Hid (∀ W, Below w.heap.size w W → OutZ W g (n * 9) (cellZ fun p => L.getD p Sp.nil)) := Lib.hid (fun W hb => h.below hb)
  have HNL := Lib.hid hn
  have HO0 : Hid ((w.alloc (.cells #[Value.int .i64 s.L, .int .i64 s.T, .int .i64 s.R, .int .i64 s.Lo, .int .i64 s.P, .int .i64 s.Li, .int .i64 s.X, .int .i64 s.Y, .int .i64 s.SL] 54)).ownsRow (w.heap.size + 1) 54 9 (.slice none 0 0) 0 (encL (L.take 0))) := Lib.hid (World.ownsRow_nil _ _ _ _)
  clear h hn
  unfold aggSp
  go_enter Tryd.func31, Tryd.ntmps31
  go_wp2
  go_loopw [5, 6] (fun o i wr => ∃ k : Nat, k ≤ n ∧ i = .int .i64 k ∧ Hid (wr.ownsRow (w.heap.size + 1) 54 9 o k (encL (L.take k))) ∧ Hid (Box9 wr w.heap.size s) ∧ Hid (Below w.heap.size w wr) ∧ Hid (∀ j, j < k → s.Li ≤ (L.getD j Sp.nil).Li)) (fun _ i _ => n - (intOf i).toNat)
  case atStart => exact ⟨0, Nat.zero_le _, rfl, HO0, HX, HB0, Lib.hid (fun j hj => absurd hj (Nat.not_lt_zero _))⟩
  case round =>
    clear HX HB0 HO0
    obtain ⟨k, hk, rfl, HO, HX, HB, HP⟩ := hrel
    by_cases hlt : k < n
    · have hd : decide (k < n) = true := by simp; omega
      obtain ⟨c0, c1, c2, c3, c4, c5, c6, c7, c8⟩ := cell9' (HCL.out wr HB.out) hlt
      obtain ⟨t, ht⟩ : ∃ t, L.getD k Sp.nil = t := ⟨_, rfl⟩
      rw [ht] at c0 c1 c2 c3 c4 c5 c6 c7 c8
      have HT := Lib.hid ht
      have hs5 := HX.out.2.2.2.2.2.1
      clear ht
      by_cases hc : s.Li ≤ t.Li
      · have hdc : decide (s.Li ≤ t.Li) = true := by simpa using hc
        have HP2 : Hid (∀ j, j < k + 1 → s.Li ≤ (L.getD j Sp.nil).Li) := Lib.hid (fun j hj => by
          by_cases e : j = k
          · rw [e, HT.out]; exact hc
          · exact HP.out j (by omega))
        clear hc
        go_wp2
        go_quiet (fail)
        have HX1 : Hid (Box9 (wr.drewN nq) w.heap.size s) := Lib.hid (by
          obtain ⟨s0, s1, s2, s3, s4, s5, s6, s7, s8⟩ := HX.out
          refine ⟨?_, ?_, ?_, ?_, ?_, ?_, ?_, ?_, ?_⟩ <;> simpa)
        have HB1 := Lib.hid (below_drewN HB.out nq)
        have HO1 := Lib.hid (own_drewN (q := nq) HO.out)
        have HTK : Hid (encL (L.take k ++ [t]) = encL (L.take (k + 1))) := Lib.hid (by rw [take_succ_getD L (show k < L.length by rw [← HNL.out]; exact hlt), HT.out])
        clear HX HB HO c0 c1 c2 c3 c4 c5 c6 c7 c8 hs5
        generalize wr.drewN nq = wd at *
        have hsz := HB1.out.size
        have hs1 : w.heap.size + 1 ≤ wd.heap.size := by
          have := cell_lt HX1.out.1
          omega
        obtain ⟨c0, c1, c2, c3, c4, c5, c6, c7, c8⟩ := cell9' (HCL.out wd HB1.out) hlt
        rw [HT.out] at c0 c1 c2 c3 c4 c5 c6 c7 c8
        have hk1 : k + 1 ≤ maxLen := by unfold maxLen; omega
        have hk2 : (k + 1) * 72 ≤ 140737488355328 := by omega
        have hs2 : w.heap.size + 1 ≤ (wd.alloc (.cells #[Value.int .i64 t.L, .int .i64 t.T, .int .i64 t.R, .int .i64 t.Lo, .int .i64 t.P, .int .i64 t.Li, .int .i64 t.X, .int .i64 t.Y, .int .i64 t.SL] 54)).heap.size := by simp; omega
        have HRW : Hid (∀ b, u5.ownBlock = some b → w.heap.size + 1 ≤ b) := Lib.hid (fun b hb => (HO1.out.lt b hb).1)
        have HOA := Lib.hid (HO1.out.alloc (.cells #[Value.int .i64 t.L, .int .i64 t.T, .int .i64 t.R, .int .i64 t.Lo, .int .i64 t.P, .int .i64 t.Li, .int .i64 t.X, .int .i64 t.Y, .int .i64 t.SL] 54))
        clear HO1
        go_wp2_with (first
          | (at_builtin; refine wpList_append_lies _ rfl _ _ 50 rfl (w.heap.size + 1) 54 i0 zero9 9 72 Tryd.underlying50 hi hz0 hz1 hz2 rfl (by decide) u5 k (encL (L.take k)) rfl HOA.out ⟨wd.heap.size, 0, none⟩ 1 1 (encSp t) rfl rfl (news9 _ _ _) (encSp_cells _) (by decide) hk1 hk2 hs2 _ rfl ?_; intro g2 cap2 w5 hown hgrow hat hlt2; have HO5 := Lib.hid (own_more hown rfl); have HB5 := Lib.hid (below_app HB1.out hsz hgrow (fun b hb => by have := HRW.out b hb; omega)); have HX5 := Lib.hid ((HX1.out.kept (World.grownBy_alloc wd _ none) (fun b hb => by cases hb)).kept hgrow (fun b hb e => by have := HRW.out b hb; omega)); clear hown hgrow hat hlt2 c0 c1 c2 c3 c4 c5 c6 c7 c8)
          | fail)
        go_roundw
        case rel => exact ⟨k + 1, by omega, by go_num, Lib.hid (by rw [← HTK.out]; exact HO5.out), HX5, HB5, HP2⟩
        case measure => simp [intOf]; omega
      · have hdc : decide (s.Li ≤ t.Li) = false := by simpa using hc
        have HP2 : Hid (k < n → (L.getD k Sp.nil).Li < s.Li) := Lib.hid (fun _ => by rw [HT.out]; omega)
        clear hc
        go_wp2
        go_quiet (fail)
        have HX1 : Hid (Box9 (wr.drewN nq) w.heap.size s) := Lib.hid (by
          obtain ⟨s0, s1, s2, s3, s4, s5, s6, s7, s8⟩ := HX.out
          refine ⟨?_, ?_, ?_, ?_, ?_, ?_, ?_, ?_, ?_⟩ <;> simpa)
        have HB1 := Lib.hid (below_drewN HB.out nq)
        have HO1 := Lib.hid (own_drewN (q := nq) HO.out)
        clear HX HB HO
        generalize wr.drewN nq = wd at *
        have hsz := HB1.out.size
        have hs1 : w.heap.size + 1 ≤ wd.heap.size := by
          have := cell_lt HX1.out.1
          omega
        obtain ⟨s0, s1, s2, s3, s4, s5, s6, s7, s8⟩ := HX1.out
        have hAL : (L.take k).length = k := by rw [List.length_take, ← HNL.out]; omega
        have hk1 : k + 1 ≤ maxLen := by unfold maxLen; omega
        have hk2 : (k + 1) * 72 ≤ 140737488355328 := by omega
        have hs2 : w.heap.size + 1 ≤ (wd.alloc (.cells #[Value.int .i64 s.L, .int .i64 s.T, .int .i64 s.R, .int .i64 s.Lo, .int .i64 s.P, .int .i64 s.Li, .int .i64 s.X, .int .i64 s.Y, .int .i64 s.SL] 54)).heap.size := by simp; omega
        have HRW : Hid (∀ b, u5.ownBlock = some b → w.heap.size ≤ b) := Lib.hid (fun b hb => by have := (HO1.out.lt b hb).1; omega)
        have hm1 : k + 1 + (n - k) ≤ maxLen := by unfold maxLen; omega
        have hm2 : (k + 1 + (n - k)) * 72 ≤ 140737488355328 := by omega
        have HDL : Hid ((encL (L.drop k)).length = (n - k) * 9) := Lib.hid (by rw [encL_len, List.length_drop, ← HNL.out])
        have HNW : Hid (∀ W, Below w.heap.size w W → ∀ j u, (encL (L.drop k))[j]? = some u → W.cell? ((⟨g, k * 9, none⟩ : Addr).add j) = some u) := Lib.hid (fun W hb => rest_cells (HCL.out W hb) HNL.out hk)
        have HNZ : Hid (n - k = 0 → ∀ W : World, ∀ j u, (encL (L.drop k))[j]? = some u → W.cell? ((⟨g, 0, none⟩ : Addr).add j) = some u) := Lib.hid (fun h W j u hu => by
          rw [List.getElem?_eq_none (by rw [HDL.out, h]; omega)] at hu
          cases hu)
        have HS5 : Hid (∀ W : World, wd.heap.size ≤ W.heap.size → w.heap.size + 1 ≤ W.heap.size) := Lib.hid (fun W h => by omega)
        have HOA := Lib.hid (HO1.out.alloc (.cells #[Value.int .i64 s.L, .int .i64 s.T, .int .i64 s.R, .int .i64 s.Lo, .int .i64 s.P, .int .i64 s.Li, .int .i64 s.X, .int .i64 s.Y, .int .i64 s.SL] 54))
        clear HX1 HO1
        go_wp2_with (first
          | (at_builtin; refine wpList_append_lies _ rfl _ _ 50 rfl (w.heap.size + 1) 54 i0 zero9 9 72 Tryd.underlying50 hi hz0 hz1 hz2 rfl (by decide) u5 k (encL (L.take k)) rfl HOA.out ⟨wd.heap.size, 0, none⟩ 1 1 (encSp s) rfl rfl (news9 _ _ _) (encSp_cells _) (by decide) hk1 hk2 hs2 _ rfl ?_; intro g2 cap2 w5 hown hgrow hat hlt; have HO5 := Lib.hid (own_more hown rfl); have HB5 := Lib.hid (below_app HB1.out hsz hgrow HRW.out); have HG5 : Hid (wd.heap.size ≤ w5.heap.size) := Lib.hid (by have := hgrow.size; simp at this; omega); clear hown hgrow hat hlt s0 s1 s2 s3 s4 s5 s6 s7 s8)
          | (at_builtin; refine wpList_append_own_at _ rfl _ _ 50 rfl (w.heap.size + 1) 54 i0 zero9 9 72 Tryd.underlying50 hi hz0 hz1 hz2 rfl (by decide) (.slice (some ⟨g2, 0, none⟩) (k + 1 : Nat) cap2) (k + 1) (encL (L.take k ++ [s])) rfl HO5.out ⟨g, k * 9, none⟩ (n - k) (cap - k) (encL (L.drop k)) rfl HDL.out (HNW.out w5 HB5.out) (encL_cells _) hm1 hm2 (HS5.out w5 HG5.out) ?_; intro v' w6 hown hgrow hnil hat; have HO6 := Lib.hid hown; have HB6 := Lib.hid (HB5.out.grown hgrow HB5.out.size (fun j hj => by have := (HO5.out.lt j hj).1; omega)); clear hown hgrow hnil hat)
          | (at_builtin; refine wpList_append_own_at _ rfl _ _ 50 rfl (w.heap.size + 1) 54 i0 zero9 9 72 Tryd.underlying50 hi hz0 hz1 hz2 rfl (by decide) (.slice (some ⟨g2, 0, none⟩) (k + 1 : Nat) cap2) (k + 1) (encL (L.take k ++ [s])) rfl HO5.out ⟨g, 0, none⟩ (n - k) 0 (encL (L.drop k)) rfl HDL.out (HNZ.out (by omega) w5) (encL_cells _) hm1 hm2 (HS5.out w5 HG5.out) ?_; intro v' w6 hown hgrow hnil hat; have HO6 := Lib.hid hown; have HB6 := Lib.hid (HB5.out.grown hgrow HB5.out.size (fun j hj => by have := (HO5.out.lt j hj).1; omega)); clear hown hgrow hnil hat)
          | fail)
        all_goals
          go_ret
          refine ⟨_, rfl, ?_, HB6.out⟩
          rw [placeL_at L s (show k ≤ L.length by rw [← HNL.out]; exact hk) HP.out (fun h => HP2.out (by rw [HNL.out]; exact h))]
          exact own_done HO6.out (by omega) (by rw [encL_app, List.append_assoc]; rfl) (by omega)
    · have hd : decide (k < n) = false := by simp; omega
      have HP2 : Hid (k < n → (L.getD k Sp.nil).Li < s.Li) := Lib.hid (fun h => absurd h hlt)
      clear hlt
      by_cases hck : cap = k
      · go_wp2
        go_quiet (fail)
        have HX1 : Hid (Box9 (wr.drewN nq) w.heap.size s) := Lib.hid (by
          obtain ⟨s0, s1, s2, s3, s4, s5, s6, s7, s8⟩ := HX.out
          refine ⟨?_, ?_, ?_, ?_, ?_, ?_, ?_, ?_, ?_⟩ <;> simpa)
        have HB1 := Lib.hid (below_drewN HB.out nq)
        have HO1 := Lib.hid (own_drewN (q := nq) HO.out)
        clear HX HB HO
        generalize wr.drewN nq = wd at *
        have hsz := HB1.out.size
        have hs1 : w.heap.size + 1 ≤ wd.heap.size := by
          have := cell_lt HX1.out.1
          omega
        obtain ⟨s0, s1, s2, s3, s4, s5, s6, s7, s8⟩ := HX1.out
        have hAL : (L.take k).length = k := by rw [List.length_take, ← HNL.out]; omega
        have hk1 : k + 1 ≤ maxLen := by unfold maxLen; omega
        have hk2 : (k + 1) * 72 ≤ 140737488355328 := by omega
        have hs2 : w.heap.size + 1 ≤ (wd.alloc (.cells #[Value.int .i64 s.L, .int .i64 s.T, .int .i64 s.R, .int .i64 s.Lo, .int .i64 s.P, .int .i64 s.Li, .int .i64 s.X, .int .i64 s.Y, .int .i64 s.SL] 54)).heap.size := by simp; omega
        have HRW : Hid (∀ b, u5.ownBlock = some b → w.heap.size ≤ b) := Lib.hid (fun b hb => by have := (HO1.out.lt b hb).1; omega)
        have hm1 : k + 1 + (n - k) ≤ maxLen := by unfold maxLen; omega
        have hm2 : (k + 1 + (n - k)) * 72 ≤ 140737488355328 := by omega
        have HDL : Hid ((encL (L.drop k)).length = (n - k) * 9) := Lib.hid (by rw [encL_len, List.length_drop, ← HNL.out])
        have HNW : Hid (∀ W, Below w.heap.size w W → ∀ j u, (encL (L.drop k))[j]? = some u → W.cell? ((⟨g, k * 9, none⟩ : Addr).add j) = some u) := Lib.hid (fun W hb => rest_cells (HCL.out W hb) HNL.out hk)
        have HNZ : Hid (n - k = 0 → ∀ W : World, ∀ j u, (encL (L.drop k))[j]? = some u → W.cell? ((⟨g, 0, none⟩ : Addr).add j) = some u) := Lib.hid (fun h W j u hu => by
          rw [List.getElem?_eq_none (by rw [HDL.out, h]; omega)] at hu
          cases hu)
        have HS5 : Hid (∀ W : World, wd.heap.size ≤ W.heap.size → w.heap.size + 1 ≤ W.heap.size) := Lib.hid (fun W h => by omega)
        have HOA := Lib.hid (HO1.out.alloc (.cells #[Value.int .i64 s.L, .int .i64 s.T, .int .i64 s.R, .int .i64 s.Lo, .int .i64 s.P, .int .i64 s.Li, .int .i64 s.X, .int .i64 s.Y, .int .i64 s.SL] 54))
        clear HX1 HO1
        go_wp2_with (first
          | (at_builtin; refine wpList_append_lies _ rfl _ _ 50 rfl (w.heap.size + 1) 54 i0 zero9 9 72 Tryd.underlying50 hi hz0 hz1 hz2 rfl (by decide) u5 k (encL (L.take k)) rfl HOA.out ⟨wd.heap.size, 0, none⟩ 1 1 (encSp s) rfl rfl (news9 _ _ _) (encSp_cells _) (by decide) hk1 hk2 hs2 _ rfl ?_; intro g2 cap2 w5 hown hgrow hat hlt; have HO5 := Lib.hid (own_more hown rfl); have HB5 := Lib.hid (below_app HB1.out hsz hgrow HRW.out); have HG5 : Hid (wd.heap.size ≤ w5.heap.size) := Lib.hid (by have := hgrow.size; simp at this; omega); clear hown hgrow hat hlt s0 s1 s2 s3 s4 s5 s6 s7 s8)
          | (at_builtin; refine wpList_append_own_at _ rfl _ _ 50 rfl (w.heap.size + 1) 54 i0 zero9 9 72 Tryd.underlying50 hi hz0 hz1 hz2 rfl (by decide) (.slice (some ⟨g2, 0, none⟩) (k + 1 : Nat) cap2) (k + 1) (encL (L.take k ++ [s])) rfl HO5.out ⟨g, k * 9, none⟩ (n - k) (cap - k) (encL (L.drop k)) rfl HDL.out (HNW.out w5 HB5.out) (encL_cells _) hm1 hm2 (HS5.out w5 HG5.out) ?_; intro v' w6 hown hgrow hnil hat; have HO6 := Lib.hid hown; have HB6 := Lib.hid (HB5.out.grown hgrow HB5.out.size (fun j hj => by have := (HO5.out.lt j hj).1; omega)); clear hown hgrow hnil hat)
          | (at_builtin; refine wpList_append_own_at _ rfl _ _ 50 rfl (w.heap.size + 1) 54 i0 zero9 9 72 Tryd.underlying50 hi hz0 hz1 hz2 rfl (by decide) (.slice (some ⟨g2, 0, none⟩) (k + 1 : Nat) cap2) (k + 1) (encL (L.take k ++ [s])) rfl HO5.out ⟨g, 0, none⟩ (n - k) 0 (encL (L.drop k)) rfl HDL.out (HNZ.out (by omega) w5) (encL_cells _) hm1 hm2 (HS5.out w5 HG5.out) ?_; intro v' w6 hown hgrow hnil hat; have HO6 := Lib.hid hown; have HB6 := Lib.hid (HB5.out.grown hgrow HB5.out.size (fun j hj => by have := (HO5.out.lt j hj).1; omega)); clear hown hgrow hnil hat)
          | fail)
        all_goals
          go_ret
          refine ⟨_, rfl, ?_, HB6.out⟩
          rw [placeL_at L s (show k ≤ L.length by rw [← HNL.out]; exact hk) HP.out (fun h => HP2.out (by rw [HNL.out]; exact h))]
          exact own_done HO6.out (by omega) (by rw [encL_app, List.append_assoc]; rfl) (by omega)
      · go_wp2
        go_quiet (fail)
        have HX1 : Hid (Box9 (wr.drewN nq) w.heap.size s) := Lib.hid (by
          obtain ⟨s0, s1, s2, s3, s4, s5, s6, s7, s8⟩ := HX.out
          refine ⟨?_, ?_, ?_, ?_, ?_, ?_, ?_, ?_, ?_⟩ <;> simpa)
        have HB1 := Lib.hid (below_drewN HB.out nq)
        have HO1 := Lib.hid (own_drewN (q := nq) HO.out)
        clear HX HB HO
        generalize wr.drewN nq = wd at *
        have hsz := HB1.out.size
        have hs1 : w.heap.size + 1 ≤ wd.heap.size := by
          have := cell_lt HX1.out.1
          omega
        obtain ⟨s0, s1, s2, s3, s4, s5, s6, s7, s8⟩ := HX1.out
        have hAL : (L.take k).length = k := by rw [List.length_take, ← HNL.out]; omega
        have hk1 : k + 1 ≤ maxLen := by unfold maxLen; omega
        have hk2 : (k + 1) * 72 ≤ 140737488355328 := by omega
        have hs2 : w.heap.size + 1 ≤ (wd.alloc (.cells #[Value.int .i64 s.L, .int .i64 s.T, .int .i64 s.R, .int .i64 s.Lo, .int .i64 s.P, .int .i64 s.Li, .int .i64 s.X, .int .i64 s.Y, .int .i64 s.SL] 54)).heap.size := by simp; omega
        have HRW : Hid (∀ b, u5.ownBlock = some b → w.heap.size ≤ b) := Lib.hid (fun b hb => by have := (HO1.out.lt b hb).1; omega)
        have hm1 : k + 1 + (n - k) ≤ maxLen := by unfold maxLen; omega
        have hm2 : (k + 1 + (n - k)) * 72 ≤ 140737488355328 := by omega
        have HDL : Hid ((encL (L.drop k)).length = (n - k) * 9) := Lib.hid (by rw [encL_len, List.length_drop, ← HNL.out])
        have HNW : Hid (∀ W, Below w.heap.size w W → ∀ j u, (encL (L.drop k))[j]? = some u → W.cell? ((⟨g, k * 9, none⟩ : Addr).add j) = some u) := Lib.hid (fun W hb => rest_cells (HCL.out W hb) HNL.out hk)
        have HNZ : Hid (n - k = 0 → ∀ W : World, ∀ j u, (encL (L.drop k))[j]? = some u → W.cell? ((⟨g, 0, none⟩ : Addr).add j) = some u) := Lib.hid (fun h W j u hu => by
          rw [List.getElem?_eq_none (by rw [HDL.out, h]; omega)] at hu
          cases hu)
        have HS5 : Hid (∀ W : World, wd.heap.size ≤ W.heap.size → w.heap.size + 1 ≤ W.heap.size) := Lib.hid (fun W h => by omega)
        have HOA := Lib.hid (HO1.out.alloc (.cells #[Value.int .i64 s.L, .int .i64 s.T, .int .i64 s.R, .int .i64 s.Lo, .int .i64 s.P, .int .i64 s.Li, .int .i64 s.X, .int .i64 s.Y, .int .i64 s.SL] 54))
        clear HX1 HO1
        go_wp2_with (first
          | (at_builtin; refine wpList_append_lies _ rfl _ _ 50 rfl (w.heap.size + 1) 54 i0 zero9 9 72 Tryd.underlying50 hi hz0 hz1 hz2 rfl (by decide) u5 k (encL (L.take k)) rfl HOA.out ⟨wd.heap.size, 0, none⟩ 1 1 (encSp s) rfl rfl (news9 _ _ _) (encSp_cells _) (by decide) hk1 hk2 hs2 _ rfl ?_; intro g2 cap2 w5 hown hgrow hat hlt; have HO5 := Lib.hid (own_more hown rfl); have HB5 := Lib.hid (below_app HB1.out hsz hgrow HRW.out); have HG5 : Hid (wd.heap.size ≤ w5.heap.size) := Lib.hid (by have := hgrow.size; simp at this; omega); clear hown hgrow hat hlt s0 s1 s2 s3 s4 s5 s6 s7 s8)
          | (at_builtin; refine wpList_append_own_at _ rfl _ _ 50 rfl (w.heap.size + 1) 54 i0 zero9 9 72 Tryd.underlying50 hi hz0 hz1 hz2 rfl (by decide) (.slice (some ⟨g2, 0, none⟩) (k + 1 : Nat) cap2) (k + 1) (encL (L.take k ++ [s])) rfl HO5.out ⟨g, k * 9, none⟩ (n - k) (cap - k) (encL (L.drop k)) rfl HDL.out (HNW.out w5 HB5.out) (encL_cells _) hm1 hm2 (HS5.out w5 HG5.out) ?_; intro v' w6 hown hgrow hnil hat; have HO6 := Lib.hid hown; have HB6 := Lib.hid (HB5.out.grown hgrow HB5.out.size (fun j hj => by have := (HO5.out.lt j hj).1; omega)); clear hown hgrow hnil hat)
          | (at_builtin; refine wpList_append_own_at _ rfl _ _ 50 rfl (w.heap.size + 1) 54 i0 zero9 9 72 Tryd.underlying50 hi hz0 hz1 hz2 rfl (by decide) (.slice (some ⟨g2, 0, none⟩) (k + 1 : Nat) cap2) (k + 1) (encL (L.take k ++ [s])) rfl HO5.out ⟨g, 0, none⟩ (n - k) 0 (encL (L.drop k)) rfl HDL.out (HNZ.out (by omega) w5) (encL_cells _) hm1 hm2 (HS5.out w5 HG5.out) ?_; intro v' w6 hown hgrow hnil hat; have HO6 := Lib.hid hown; have HB6 := Lib.hid (HB5.out.grown hgrow HB5.out.size (fun j hj => by have := (HO5.out.lt j hj).1; omega)); clear hown hgrow hnil hat)
          | fail)
        all_goals
          go_ret
          refine ⟨_, rfl, ?_, HB6.out⟩
          rw [placeL_at L s (show k ≤ L.length by rw [← HNL.out]; exact hk) HP.out (fun h => HP2.out (by rw [HNL.out]; exact h))]
          exact own_done HO6.out (by omega) (by rw [encL_app, List.append_assoc]; rfl) (by omega)
theorem placeL_len (L : List Sp) (s : Sp) : (placeL L s).length = L.length + 1 := by
  unfold placeL
  have := congrArg List.length (List.takeWhile_append_dropWhile (p := fun x : Sp => decide (s.Li ≤ x.Li)) (l := L))
  rw [List.length_append] at this ⊢
  rw [List.length_cons]
  omega
/-- A spot put into a list of the call's own. -/
theorem placed_any (L : List Sp) (s : Sp) (base : Nat) (v : Value) (w : World) (hL : L.length ≤ 65536) (hb : base ≤ w.heap.size) (h : w.ownsRow base 54 9 v L.length (encL L)) :
    Calls Tryd.prog 31 #[v, aggSp s] w fun e w' => ∃ v', e = .returned v' ∧ w'.ownsRow base 54 9 v' (placeL L s).length (encL (placeL L s)) ∧ Below w.heap.size w w' := by
  rcases h.2 with ⟨rfl, h0⟩ | ⟨g, cap, cur, rfl, h1, h2, h3, h4⟩
  · obtain rfl : L = [] := List.eq_nil_of_length_eq_zero h0
    exact (placed_nil s w).mono (by
      rintro e w' ⟨v', rfl, ho, hB⟩
      exact ⟨v', rfl, ho.mono hb, hB⟩)
  · exact (placed_some L s g L.length cap rfl hL h3 w (own_outZ h rfl)).mono (by
      rintro e w' ⟨v', rfl, ho, hB⟩
      rw [placeL_len]
      exact ⟨v', rfl, ho.mono hb, hB⟩)
end Go.Proofs.YthbekddpnkammaaDoor
