/- The parts of lit pixels: what spots.Label computes. -/
import Derived.Test.YthbekddpnkammaaGreatDoorFlood
namespace Go.Proofs.YthbekddpnkammaaGreatDoor
open Go.RowKit

open Classical in
/-- How many cells of a block hold nought. -/
noncomputable def zcW (w : World) (g : Nat) : Nat → Nat
  | 0 => 0
  | j + 1 => zcW w g j + (if w.cell? ⟨g, j, none⟩ = some (.int .i64 0) then 1 else 0)
def zc (M : Nat → Nat) : Nat → Nat
  | 0 => 0
  | j + 1 => zc M j + (if M j = 0 then 1 else 0)
theorem zcW_eq {w : World} {g n : Nat} {M : Nat → Nat} (h : OutC w g n M) : ∀ j, j ≤ n → zcW w g j = zc M j := by
  intro j
  induction j with
  | zero => intro _; rfl
  | succ j ih =>
    intro hj
    rw [zcW, zc, ih (by omega), (h j (by omega)).1]
    by_cases c : M j = 0
    · rw [if_pos (by rw [c]; rfl), if_pos c]
    · rw [if_neg (by intro e; injection e with e; injection e with _ e; omega), if_neg c]
theorem zc_put {M : Nat → Nat} {m x n : Nat} (hm : m < n) (h0 : M m = 0) (hx : 0 < x) : zc (putF M m x) n + 1 = zc M n := by
  have same : ∀ j, j ≤ m → zc (putF M m x) j = zc M j := by
    intro j
    induction j with
    | zero => intro _; rfl
    | succ j ih => intro hj; rw [zc, zc, ih (by omega), putF_other _ _ (by omega)]
  have key : ∀ d, zc (putF M m x) (m + 1 + d) + 1 = zc M (m + 1 + d) := by
    intro d
    induction d with
    | zero => rw [Nat.add_zero, zc, zc, same m (Nat.le_refl _), putF_same, if_neg (by omega), if_pos h0]
    | succ d ih => rw [show m + 1 + (d + 1) = m + 1 + d + 1 by omega, zc, zc, putF_other _ _ (by omega)]; omega
  have := key (n - (m + 1))
  rwa [show m + 1 + (n - (m + 1)) = n by omega] at this

theorem zc_le (M : Nat → Nat) (n : Nat) : zc M n ≤ n := by
  induction n with
  | zero => exact Nat.le_refl _
  | succ n ih => rw [zc]; split <;> omega
def lenOf : Value → Nat
  | .slice _ n _ => n
  | _ => 0

/-- The row that is written, in block B, and what was there. -/
def WR (w : World) (B n : Nat) (M : Nat → Nat) (wr : World) : Prop := OutC wr B n M ∧ Below B w wr ∧ B < wr.heap.size ∧ w.heap.size = B
theorem WR.put {w wr : World} {B n : Nat} {M : Nat → Nat} (h : WR w B n M wr) {i : Nat} (hi : i < n) (x : Nat) : WR w B n (putF M i x) (wr.setCell ⟨B, i, none⟩ (.int .i64 x)) :=
  ⟨h.1.put hi x, h.2.1.setCell (Nat.le_refl _) _, by simpa using h.2.2.1, h.2.2.2⟩
theorem OutC.below {w w' : World} {B n : Nat} {M : Nat → Nat} (h : OutC w B n M) (hb : Below w.heap.size w w') (hB : B < w.heap.size) : OutC w' B n M := by
  intro j hj
  obtain ⟨h1, h2⟩ := h j hj
  exact ⟨by rw [hb.cell (p := ⟨B, j, none⟩) hB]; exact h1, by rw [hb.frozen (p := ⟨B, j, none⟩) hB]; exact h2⟩
theorem OutC.grown {w w' : World} {B n : Nat} {M : Nat → Nat} (h : OutC w B n M) {row : Option Nat} (hg : w.grownBy w' row) (hB : B < w.heap.size) (hr : row ≠ some B) : OutC w' B n M := by
  intro j hj
  obtain ⟨h1, h2⟩ := h j hj
  have hk := hg.block B hB (fun e => hr e.symm)
  exact ⟨by rw [World.cell?_of_block (a := ⟨B, j, none⟩) hk]; exact h1, by rw [World.frozen?_of_block (a := ⟨B, j, none⟩) hk]; exact h2⟩
theorem WR.below {w wr w' : World} {B n : Nat} {M : Nat → Nat} (h : WR w B n M wr) (hb : Below wr.heap.size wr w') : WR w B n M w' :=
  ⟨h.1.below hb h.2.2.1, h.2.1.trans (hb.mono (Nat.le_of_lt h.2.2.1)), by have := hb.size; have := h.2.2.1; omega, h.2.2.2⟩
theorem WR.alloc {w wr : World} {B n : Nat} {M : Nat → Nat} (h : WR w B n M wr) (o : Obj) : WR w B n M (wr.alloc o) := h.below ((Below.refl _ _).alloc (Nat.le_refl _) _)
theorem WR.grown {w wr w' : World} {B n : Nat} {M : Nat → Nat} (h : WR w B n M wr) {row : Option Nat} (hg : wr.grownBy w' row) (hr : ∀ k, row = some k → B < k) : WR w B n M w' :=
  ⟨h.1.grown hg h.2.2.1 (fun e => by have := hr B e; omega), h.2.1.grown hg (Nat.le_of_lt h.2.2.1) (fun k hk => Nat.le_of_lt (hr k hk)), by have := hg.size; have := h.2.2.1; omega, h.2.2.2⟩

/-- The stack: a row of the call's own behind block B. -/
def Stk (B g len cap : Nat) (S : List Nat) (wr : World) : Prop := wr.ownsRow (B + 1) 3 1 (.slice (some ⟨g, 0, none⟩) len cap) len (S.map fun s : Nat => Value.int .i64 (s : Int)) ∧ S.length = len
theorem ownsRow_below {w w' : World} {base : Nat} {e : TypeId} {size : Nat} {v : Value} {n : Nat} {xs : List Value} (h : w.ownsRow base e size v n xs) (hb : Below w.heap.size w w') : w'.ownsRow base e size v n xs := by
  refine ⟨h.1, ?_⟩
  rcases h.2 with hn | ⟨g, cap, cur, rfl, hb', hgg, rest⟩
  · exact .inl hn
  · refine .inr ⟨g, cap, cur, rfl, hb', ?_, rest⟩
    rw [hb.block g (Array.getElem?_eq_some_iff.1 hgg).1]
    exact hgg
theorem Stk.below {B g len cap : Nat} {S : List Nat} {wr w' : World} (h : Stk B g len cap S wr) (hb : Below wr.heap.size wr w') : Stk B g len cap S w' := ⟨ownsRow_below h.1 hb, h.2⟩
theorem Stk.store {B g len cap i : Nat} {S : List Nat} {wr : World} {v : Value} (h : Stk B g len cap S wr) : Stk B g len cap S (wr.setCell ⟨B, i, none⟩ v) :=
  ⟨ownsRow_setCell_below h.1 (a := ⟨B, i, none⟩) (Nat.lt_succ_self B) v, h.2⟩
theorem Stk.top {B g l cap k : Nat} {S : List Nat} {wr : World} (h : Stk B g (l + 1) cap (S ++ [k]) wr) : wr.cell? ⟨g, l, none⟩ = some (.int .i64 k) := by
  have hS : S.length = l := by have := h.2; simp at this; exact this
  rw [h.1.cellAt l (by omega)]
  rw [List.map_append, List.getElem?_append_right (by simp; omega)]
  simp [hS]
theorem Stk.pop {B g l cap k : Nat} {S : List Nat} {wr : World} (h : Stk B g (l + 1) cap (S ++ [k]) wr) : Stk B g l cap S wr := by
  have hS : S.length = l := by have := h.2; simp at this; exact this
  refine ⟨⟨by simp [hS], ?_⟩, hS⟩
  rcases h.1.2 with ⟨e, _⟩ | ⟨g', cap', cur, e, hb', hgg, h1, h2, h3, h4⟩
  · simp at e
  · simp only [Value.slice.injEq, Option.some.injEq, Addr.mk.injEq, and_true, true_and] at e
    obtain ⟨rfl, rfl⟩ := e
    refine .inr ⟨g, cap, cur, rfl, hb', hgg, by omega, h2, h3, ?_⟩
    have := congrArg (List.take l) h4
    rw [List.take_take, List.map_append, List.take_append_of_le_length (by simp; omega)] at this
    rw [show min l ((l + 1) * 1) = l * 1 by omega] at this
    rw [this, List.take_of_length_le (by simp; omega)]
theorem Stk.cap {B g len cap : Nat} {S : List Nat} {wr : World} (h : Stk B g len cap S wr) : len ≤ cap ∧ B < g ∧ g < wr.heap.size := by
  refine ⟨?_, (h.1.lt g rfl).1, (h.1.lt g rfl).2⟩
  rcases h.1.2 with ⟨e, _⟩ | ⟨g', cap', cur, e, hb', hgg, h1, h2, h3, h4⟩
  · simp at e
  · simp only [Value.slice.injEq, Option.some.injEq, Addr.mk.injEq, and_true, true_and] at e
    obtain ⟨_, rfl⟩ := e
    exact h1
theorem Stk.push {B g l cap m : Nat} {S : List Nat} {wr w1 : World} {v' : Value} {o : Obj} (h : Stk B g l cap S wr) (hown : w1.ownsRow (B + 1) 3 1 v' (l + 1) (S.map (fun s : Nat => Value.int .i64 (s : Int)) ++ [.int .i64 (m : Int)])) (hnil : ¬ v' = .slice none 0 0) :
    ∃ g' cap', v' = .slice (some ⟨g', 0, none⟩) (l + 1) cap' ∧ Stk B g' (l + 1) cap' (S ++ [m]) w1 := by
  rcases hown.2 with ⟨e, _⟩ | ⟨g', cap', cur, e, _⟩
  · exact absurd e hnil
  · subst e
    exact ⟨g', cap', rfl, by rw [List.map_append]; exact hown, by simp [h.2]⟩
end Go.Proofs.YthbekddpnkammaaGreatDoor
