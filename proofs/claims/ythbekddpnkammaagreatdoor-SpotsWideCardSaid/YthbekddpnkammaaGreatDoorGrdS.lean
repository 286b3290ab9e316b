/- A block of cells that hold rows of numbers, each in a block of its own. -/
import Derived.Test.YthbekddpnkammaaGreatDoorOwn
import Derived.Test.YthbekddpnkammaaGreatDoorProp
import Derived.Deep.AppendLies
namespace Go.Proofs.YthbekddpnkammaaGreatDoor
open Go.RowKit

/-- The cells of block bl hold the slices vs k, and vs k owns the numbers L k in a block at or behind base; no two share a block. -/
def TileRows (w : World) (bl base N : Nat) (vs : Nat → Value) (L : Nat → List Int) : Prop :=
  (∀ k, k < N → w.cell? ⟨bl, k, none⟩ = some (vs k) ∧ w.ownsRow base 3 1 (vs k) (L k).length ((L k).map (Value.int .i64)) ∧ w.frozen? ⟨bl, k, none⟩ = false) ∧
  ∀ j k, j < N → k < N → j ≠ k → ∀ b, (vs j).ownBlock = some b → (vs k).ownBlock ≠ some b
theorem TileRows.below {w w' : World} {bl base N : Nat} {vs : Nat → Value} {L : Nat → List Int} (h : TileRows w bl base N vs L) (hb : Below w.heap.size w w') : TileRows w' bl base N vs L := by
  refine ⟨fun k hk => ?_, h.2⟩
  obtain ⟨h1, h2, h3⟩ := h.1 k hk
  exact ⟨by rw [hb.cell (p := ⟨bl, k, none⟩) (cell_lt h1)]; exact h1, own_below h2 hb, by rw [hb.frozen (p := ⟨bl, k, none⟩) (cell_lt h1)]; exact h3⟩
theorem TileRows.nil {w : World} {bl base N : Nat} (h : ∀ k, k < N → w.cell? ⟨bl, k, none⟩ = some (.slice none 0 0) ∧ w.frozen? ⟨bl, k, none⟩ = false) : TileRows w bl base N (fun _ => .slice none 0 0) (fun _ => []) :=
  ⟨fun k hk => ⟨(h k hk).1, World.ownsRow_nil _ _ _ _, (h k hk).2⟩, fun _ _ _ _ _ b hb => by simp [Value.ownBlock] at hb⟩
/-- One number more in row k: appended, and the slice stored in its cell. -/
theorem TileRows.step {w w1 : World} {bl base N k : Nat} {vs : Nat → Value} {L : Nat → List Int} {v' : Value} {x : Int} (h : TileRows w bl base N vs L) (hbl : bl < base) (hk : k < N)
    (hown : w1.ownsRow base 3 1 v' ((L k).length + 1) ((L k).map (Value.int .i64) ++ [.int .i64 x])) (hg : w.grownBy w1 (vs k).ownBlock) (hat : v'.ownBlock = (vs k).ownBlock ∨ v'.ownBlock = some w.heap.size) :
    TileRows (w1.setCell ⟨bl, k, none⟩ v') bl base N (fun j => if j = k then v' else vs j) (fun j => if j = k then L k ++ [x] else L j) := by
  have hne : ∀ j, j < N → ∀ b, (vs j).ownBlock = some b → base ≤ b ∧ b < w.heap.size := fun j hj b hb => (h.1 j hj).2.1.lt b hb
  have hfar : some bl ≠ (vs k).ownBlock := fun e => by have := (hne k hk bl e.symm).1; omega
  have hf : ∀ j, j < N → w1.frozen? ⟨bl, j, none⟩ = false := fun j hj => (hg.frozen_far ⟨bl, j, none⟩ (cell_lt (h.1 j hj).1) hfar).trans (h.1 j hj).2.2
  have hc : ∀ j, j < N → w1.cell? ⟨bl, j, none⟩ = some (vs j) := fun j hj => hg.cell (a := ⟨bl, j, none⟩) (h.1 j hj).1 hfar
  refine ⟨fun j hj => ?_, fun i j hi hj hij b hb => ?_⟩
  · by_cases e : j = k
    · subst e
      simp only [if_true]
      refine ⟨World.cell?_setCell_same _ _ _ (hc j hj), ?_, by rw [World.frozen?_setCell]; exact hf j hj⟩
      rw [List.length_append, List.map_append]
      exact ownsRow_setCell_below hown (a := ⟨bl, j, none⟩) hbl v'
    · simp only [e, if_false]
      refine ⟨?_, ?_, by rw [World.frozen?_setCell]; exact hf j hj⟩
      · rw [World.cell?_setCell_other _ _ _ _ (by intro q; cases q; exact e rfl)]
        exact hc j hj
      · refine ownsRow_setCell_below ((h.1 j hj).2.1.kept hg ?_) (a := ⟨bl, k, none⟩) hbl v'
        by_cases z : (vs j).ownBlock = none
        · exact Or.inl z
        · obtain ⟨b, hb⟩ := Option.ne_none_iff_exists'.1 z
          exact Or.inr (by rw [hb]; exact (h.2 j k hj hk e b hb).symm)
  · have hv : ∀ j, j < N → j ≠ k → ∀ b, v'.ownBlock = some b → (vs j).ownBlock ≠ some b := by
      intro j hj hjk b hb hb2
      rcases hat with z | z
      · rw [hb] at z
        exact h.2 j k hj hk hjk b hb2 z.symm
      · rw [hb] at z
        have := (hne j hj b hb2).2
        cases z
        omega
    by_cases e : i = k
    · have e2 : j ≠ k := fun e2 => hij (e.trans e2.symm)
      simp only [e, if_true] at hb
      simp only [e2, if_false]
      exact hv j hj e2 b hb
    · simp only [e, if_false] at hb
      by_cases e2 : j = k
      · simp only [e2, if_true]
        exact fun hb2 => hv i hi e b hb2 hb
      · simp only [e2, if_false]
        exact h.2 i j hi hj hij b hb
/-- A row of the block as numbers to read. -/
theorem TileRows.row {w : World} {bl base N k : Nat} {vs : Nat → Value} {L : Nat → List Int} (h : TileRows w bl base N vs L) (hk : k < N) : ∃ a cap, vs k = .slice a (L k).length cap ∧ IRow w a (L k).length (fun j => (L k).getD j 0) := by
  have h1 := (h.1 k hk).2.1
  rcases h1.2 with ⟨e, hk0⟩ | ⟨g, cap, cur, e, _⟩
  · rw [hk0]
    exact ⟨none, 0, e, Or.inl rfl⟩
  · refine ⟨some ⟨g, 0, none⟩, cap, e, Or.inr ⟨g, 0, rfl, fun j hj => ?_⟩⟩
    have c1 := h1.cells (g := g) (by rw [e]; rfl) j (.int .i64 ((L k).getD j 0)) (by rw [List.getElem?_map, List.getElem?_eq_getElem hj, List.getD_eq_getElem?_getD, List.getElem?_eq_getElem hj]; rfl)
    have ea : (⟨g, 0, none⟩ : Addr).add j = ⟨g, j, none⟩ := by
      unfold Addr.add
      split <;> simp_all
    rw [ea] at c1
    rw [Nat.zero_add]
    exact c1
theorem tileRows_made {w : World} {base g N : Nat} {e : TypeId} (h : w.ownsRow base e 1 (.slice (some ⟨g, 0, none⟩) N N) N (madeCells (Value.slice none 0 0).cells (N * 1)).toList) (b2 : Nat) : TileRows w g b2 N (fun _ => .slice none 0 0) (fun _ => []) :=
  TileRows.nil (fun j hj => by
    refine ⟨?_, h.frozenAt j⟩
    rw [h.cellAt j (by omega)]
    have e : (Value.slice none 0 0).cells = #[.slice none 0 0] := rfl
    rw [e, toList_madeCells_one]
    simp [hj])
theorem TileRows.congr {w : World} {bl base N : Nat} {vs : Nat → Value} {L M : Nat → List Int} (h : TileRows w bl base N vs L) (e : ∀ k, L k = M k) : TileRows w bl base N vs M := by
  obtain rfl : L = M := funext e
  exact h
theorem OutZ.below {w w' : World} {g n : Nat} {Z : Nat → Int} (h : OutZ w g n Z) (hb : Below w.heap.size w w') : OutZ w' g n Z := fun j hj => by
  have hl := cell_lt (h j hj).1
  exact ⟨by rw [hb.cell (p := ⟨g, j, none⟩) hl]; exact (h j hj).1, by rw [hb.frozen (p := ⟨g, j, none⟩) hl]; exact (h j hj).2⟩
theorem IRow.congr {w : World} {a : Option Addr} {n : Nat} {f g : Nat → Int} (h : IRow w a n f) (e : ∀ j, j < n → f j = g j) : IRow w a n g := by
  rcases h with h | ⟨b, o, e1, hc⟩
  · exact Or.inl h
  · exact Or.inr ⟨b, o, e1, fun j hj => by rw [← e j hj]; exact hc j hj⟩
theorem OutZ.row {w : World} {g n : Nat} {Z : Nat → Int} (h : OutZ w g n Z) : IRow w (some ⟨g, 0, none⟩) n Z := Or.inr ⟨g, 0, rfl, fun j hj => by rw [Nat.zero_add]; exact (h j hj).1⟩
theorem outZ_made {w : World} {base g n : Nat} (h : w.ownsRow base 3 1 (.slice (some ⟨g, 0, none⟩) n n) n (madeCells (Value.int .i64 0).cells (n * 1)).toList) : OutZ w g n (fun _ => 0) := outC_made h
theorem fresh_cell (W : World) (g : Nat) (hg : W.heap.size = g) (x : Value) (T : TypeId) : (W.alloc (.cells #[x] T)).cell? ((⟨g, 0, none⟩ : Addr).add 0) = some x := by subst hg; simp [Addr.add]
/-- The first k of the numbers stored, the rest nought. -/
def partF (m : Nat → Int) (k j : Nat) : Int := if j < k then m j else 0
theorem OutZ.part {w : World} {g n k : Nat} {m : Nat → Int} (h : OutZ w g n (partF m k)) (hk : k < n) : OutZ (w.setCell ⟨g, k, none⟩ (.int .i64 (m k))) g n (partF m (k + 1)) :=
  (h.put hk (m k)).congr (fun j _ => by
    unfold putZ partF
    by_cases c : j = k
    · subst c
      rw [if_pos rfl, if_pos (by omega)]
    · rw [if_neg c]
      by_cases d : j < k
      · rw [if_pos d, if_pos (by omega)]
      · rw [if_neg d, if_neg (by omega)])
theorem OutZ.whole {w : World} {g n : Nat} {m : Nat → Int} (h : OutZ w g n (partF m n)) : OutZ w g n m := h.congr (fun _ hj => if_pos hj)
end Go.Proofs.YthbekddpnkammaaGreatDoor
