/- Cleaned pictures: what (frame.Set).Clean computes. -/
import Derived.Test.YtegnjiecninlaaaDoorCleanP
namespace Go.Proofs.YtegnjiecninlaaaDoor
open Go.RowKit

theorem alike_any (W H W' H' : Int) (a a' : Option Addr) (n n' c c' : Nat) (w : World) :
    Calls Tryd.prog 67 #[.agg #[.int .i64 W, .int .i64 H, .slice a n c], .agg #[.int .i64 W', .int .i64 H', .slice a' n' c']] w fun e w' => e = .returned (.bool (W == W' && H == H')) ∧ Below w.heap.size w w' := by
  by_cases h1 : W = W'
  · have b1 : (W == W') = true := by simpa using h1
    rw [b1]
    go_enter Tryd.func67, Tryd.ntmps67
    go_wp2
    go_ret
    exact ⟨by simp, by go_grown⟩
  · have b1 : (W == W') = false := by simpa using h1
    rw [b1]
    go_enter Tryd.func67, Tryd.ntmps67
    go_wp2
    go_ret
    exact ⟨by simp, by go_grown⟩

theorem Blk.old {w : World} {b : Nat} {l : List Value} (h : Blk w b l) (hlt : b < w.heap.size) (o : Obj) : Blk (w.alloc o) b l := h.below ((Below.refl _ _).alloc (Nat.le_refl _) _) hlt
theorem Blk.new (w : World) {b : Nat} (l : List Value) (T : TypeId) (hb : b = w.heap.size) : Blk (w.alloc (.cells l.toArray T)) b l := fun j v hj => by
  subst hb
  have h := heap_alloc_new w (.cells l.toArray T)
  simp only [World.cell?, h]
  simpa using hj
def FrB (w : World) (b : Nat) : Prop := ∀ j, w.frozen? ⟨b, j, none⟩ = false
theorem FrB.old {w : World} {b : Nat} (h : FrB w b) (hlt : b < w.heap.size) (o : Obj) : FrB (w.alloc o) b := fun j => by
  rw [World.frozen?_of_block (a := ⟨b, j, none⟩) (heap_alloc_old w o hlt)]; exact h j
theorem FrB.new (w : World) {b : Nat} (l : List Value) (T : TypeId) (hb : b = w.heap.size) : FrB (w.alloc (.cells l.toArray T)) b := fun j => by
  subst hb
  have h := heap_alloc_new w (.cells l.toArray T)
  exact frozen_of_row _ _ j l.toArray T h
/-- The boxes at the call's beginning. -/
theorem clean_laid (w : World) (s p r l4 : List Value) (r0 r1 r2 : Value) (hr : r = [r0, r1, r2]) (T1 T2 T3 T4 : TypeId) :
    CW w s p r0 r1 r2 ((((w.alloc (.cells s.toArray T1)).alloc (.cells p.toArray T2)).alloc (.cells r.toArray T3)).alloc (.cells l4.toArray T4)) ∧
    Blk ((((w.alloc (.cells s.toArray T1)).alloc (.cells p.toArray T2)).alloc (.cells r.toArray T3)).alloc (.cells l4.toArray T4)) (w.heap.size + 3) l4 := by
  have b3 : Blk ((((w.alloc (.cells s.toArray T1)).alloc (.cells p.toArray T2)).alloc (.cells r.toArray T3)).alloc (.cells l4.toArray T4)) (w.heap.size + 2) r := (Blk.new _ r T3 (by simp <;> omega)).old (by simp <;> omega) _
  have f3 : FrB ((((w.alloc (.cells s.toArray T1)).alloc (.cells p.toArray T2)).alloc (.cells r.toArray T3)).alloc (.cells l4.toArray T4)) (w.heap.size + 2) := (FrB.new _ r T3 (by simp <;> omega)).old (by simp <;> omega) _
  subst hr
  refine ⟨⟨(((Blk.new w s T1 rfl).old (by simp <;> omega) _).old (by simp <;> omega) _).old (by simp <;> omega) _, ((Blk.new _ p T2 (by simp <;> omega)).old (by simp <;> omega) _).old (by simp <;> omega) _, b3 0 r0 rfl, b3 1 r1 rfl, b3 2 r2 rfl, f3 0, f3 1, f3 2, ?_, by simp <;> omega⟩, Blk.new _ l4 T4 (by simp <;> omega)⟩
  exact ((((Below.refl w.heap.size w).alloc (Nat.le_refl _) _).alloc (by simp <;> omega) _).alloc (by simp <;> omega) _).alloc (by simp <;> omega) _
end Go.Proofs.YtegnjiecninlaaaDoor
