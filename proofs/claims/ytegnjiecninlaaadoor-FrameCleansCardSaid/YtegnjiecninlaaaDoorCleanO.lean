/- Cleaned pictures: the two lists that Clean gathers. -/
import Derived.Test.YtegnjiecninlaaaDoorCleanW
namespace Go.Proofs.YtegnjiecninlaaaDoor
open Go.RowKit

theorem CW.store3 {w : World} {s p : List Value} {r0 r1 r2 : Value} {wr : World} (h : CW w s p r0 r1 r2 wr) (u0 u1 u2 : Value) :
    CW w s p u0 u1 u2 (((wr.setCell ⟨w.heap.size + 2, 0, none⟩ u0).setCell ⟨w.heap.size + 2, 1, none⟩ u1).setCell ⟨w.heap.size + 2, 2, none⟩ u2) := by
  have e1 : (wr.setCell ⟨w.heap.size + 2, 0, none⟩ u0).cell? ⟨w.heap.size + 2, 0, none⟩ = some u0 := World.cell?_setCell_same _ _ _ h.c0
  have e2 : (wr.setCell ⟨w.heap.size + 2, 0, none⟩ u0).cell? ⟨w.heap.size + 2, 1, none⟩ = some r1 := by rw [World.cell?_setCell_other _ _ _ _ (by simp)]; exact h.c1
  have e3 : ((wr.setCell ⟨w.heap.size + 2, 0, none⟩ u0).setCell ⟨w.heap.size + 2, 1, none⟩ u1).cell? ⟨w.heap.size + 2, 2, none⟩ = some r2 := by rw [World.cell?_setCell_other _ _ _ _ (by simp), World.cell?_setCell_other _ _ _ _ (by simp)]; exact h.c2
  refine ⟨((h.set'.store (by simp)).store (by simp)).store (by simp), ((h.pic.store (by simp)).store (by simp)).store (by simp), ?_, ?_, World.cell?_setCell_same _ _ _ e3, ?_, ?_, ?_, ((h.bel.setCell (show w.heap.size ≤ w.heap.size + 2 by omega) _).setCell (show w.heap.size ≤ w.heap.size + 2 by omega) _).setCell (show w.heap.size ≤ w.heap.size + 2 by omega) _, by simpa using h.size⟩
  · rw [World.cell?_setCell_other _ _ _ _ (by simp), World.cell?_setCell_other _ _ _ _ (by simp)]; exact e1
  · rw [World.cell?_setCell_other _ _ _ _ (by simp)]; exact World.cell?_setCell_same _ _ _ e2
  · rw [World.frozen?_setCell, World.frozen?_setCell, World.frozen?_setCell]; exact h.f0
  · rw [World.frozen?_setCell, World.frozen?_setCell, World.frozen?_setCell]; exact h.f1
  · rw [World.frozen?_setCell, World.frozen?_setCell, World.frozen?_setCell]; exact h.f2

/-- A list that grows, among the blocks from b on. -/
def Grows (b : Nat) (v : Value) (L : List Int) (wr : World) : Prop := wr.ownsRow b 3 1 v L.length (L.map (Value.int .i64))
def Parted (u v : Value) : Prop := u.ownBlock = none ∨ v.ownBlock = none ∨ u.ownBlock ≠ v.ownBlock
theorem Parted.symm {u v : Value} (h : Parted u v) : Parted v u := by
  rcases h with h | h | h
  · exact Or.inr (Or.inl h)
  · exact Or.inl h
  · exact Or.inr (Or.inr (Ne.symm h))
theorem Grows.nil (b : Nat) (w : World) : Grows b (.slice none 0 0) [] w := World.ownsRow_nil _ _ _ _
theorem Grows.store {b : Nat} {v : Value} {L : List Int} {wr : World} (h : Grows b v L wr) {a : Addr} (ha : a.block < b) (u : Value) : Grows b v L (wr.setCell a u) := ownsRow_setCell_below h ha u
/-- Behind an append to the one list: both. -/
theorem Grows.step {b : Nat} {v v' u : Value} {L K : List Int} {x : Int} {wr w1 : World} {o : Obj} (h : Grows b u K wr) (hp : Parted v u)
    (hown : w1.ownsRow b 3 1 v' (L.length + 1) (L.map (Value.int .i64) ++ [.int .i64 x])) (hg : (wr.alloc o).grownBy w1 v.ownBlock) (hat : v'.ownBlock = v.ownBlock ∨ v'.ownBlock = some (wr.heap.size + 1)) :
    Grows b v' (L ++ [x]) w1 ∧ Grows b u K w1 ∧ Parted v' u := by
  refine ⟨by unfold Grows; rw [List.length_append, List.map_append]; exact hown, (h.alloc o).kept hg ?_, ?_⟩
  · cases hu : u.ownBlock with
    | none => exact Or.inl rfl
    | some g =>
      right
      rcases hp with e | e | e
      · rw [e]; simp
      · rw [hu] at e; cases e
      · rw [← hu]; exact Ne.symm e
  · rcases hat with e | e
    · unfold Parted; rw [e]; exact hp
    · cases hu : u.ownBlock with
      | none => exact Or.inr (Or.inl hu)
      | some g =>
        refine Or.inr (Or.inr ?_)
        rw [e, hu]
        have := (h.lt g hu).2
        intro h'; injection h' with h'; omega
theorem Grows.row {b : Nat} {v : Value} {L : List Int} {wr : World} (h : Grows b v L wr) : ∃ a cap, v = .slice a L.length cap ∧ IRow wr a L.length (fun j => L.getD j 0) := by
  rcases h.2 with ⟨e, hk0⟩ | ⟨g, cap, cur, e, _⟩
  · rw [hk0]
    exact ⟨none, 0, e, Or.inl rfl⟩
  · refine ⟨some ⟨g, 0, none⟩, cap, e, Or.inr ⟨g, 0, rfl, fun j hj => ?_⟩⟩
    have c1 := h.cells (g := g) (by rw [e]; rfl) j (.int .i64 (L.getD j 0)) (by rw [List.getElem?_map, List.getElem?_eq_getElem hj, List.getD_eq_getElem?_getD, List.getElem?_eq_getElem hj]; rfl)
    have ea : (⟨g, 0, none⟩ : Addr).add j = ⟨g, j, none⟩ := by
      unfold Addr.add
      split <;> simp_all
    rw [ea] at c1
    rw [Nat.zero_add]
    exact c1
theorem Grows.low {b : Nat} {v : Value} {L : List Int} {wr : World} (h : Grows b v L wr) : ∀ k, v.ownBlock = some k → b ≤ k := fun k hk => (h.lt k hk).1
/-- The side conditions of an append of one number. -/
theorem one_new (W : World) (x : Int) (T : TypeId) : ∀ j u, [Value.int .i64 x][j]? = some u → (W.alloc (.cells #[.int .i64 x] T)).cell? ((⟨W.heap.size, 0, none⟩ : Addr).add j) = some u := by
  intro j u hj
  match j, hj with
  | 0, hj => simp at hj; subst hj; simp [Addr.add]
theorem one_cell (x : Int) : ∀ u ∈ [Value.int .i64 x], u.oneCell' = true := by
  intro u hu
  simp only [List.mem_cons, List.not_mem_nil, or_false] at hu
  subst hu; rfl
theorem mean_bd {s : Int} {c : Nat} (hc : 0 < c) (h1 : (c : Int) ≤ s) (h2 : s ≤ 65535 * (c : Int)) : 0 ≤ s / c ∧ s / c ≤ 65535 :=
  ⟨Int.ediv_nonneg (by omega) (by omega), Int.ediv_le_of_le_mul (by omega) h2⟩
theorem light_bd {x m : Int} (h1 : 0 < x) (h2 : x ≤ 65535) (h3 : 0 ≤ m) (h4 : m ≤ 65535) : 0 ≤ 2 * x * m ∧ 2 * x * m ≤ 8589672450 := by
  refine ⟨Int.mul_nonneg (by omega) h3, ?_⟩
  have := Int.mul_le_mul (show 2 * x ≤ 131070 by omega) h4 h3 (by omega)
  omega
end Go.Proofs.YtegnjiecninlaaaDoor
