/- Add of two numbers that are not nought. -/
import Derived.Test.YtmkdcnemocdefaaGreatFmtFlo7
namespace Go.Proofs.YtmkdcnemocdefaaGreatFmt
open Go.RowKit

theorem Pair.s4 {K B : Nat} {w : World} {b g c n p gy : Nat} {acc ay : Int} {sx sy : Bool} {f : Nat → Nat} {v A1 A2 S1 S2 : Nat} (h : Pair K B w b g c n p gy acc ay sx sy f v A1 A2 S1 S2) (s : Bool) :
    Pair K B (w.setCell ⟨b, 4, none⟩ (.bool s)) b g c n p gy acc ay s sy f v A1 A2 S1 S2 :=
  { h with fx := h.fx.s4 s, fy := h.fy.of_eq (heap_set_far (Ne.symm h.bp) _ _), bx := h.bx.of_eq (heap_set_far (Ne.symm h.bg) _ _), bv := h.bv.of_eq (heap_set_far (Ne.symm h.by') _ _) }
theorem Pair.drewN {K B : Nat} {w : World} {b g c n p gy : Nat} {acc ay : Int} {sx sy : Bool} {f : Nat → Nat} {v A1 A2 S1 S2 : Nat} (h : Pair K B w b g c n p gy acc ay sx sy f v A1 A2 S1 S2) (m : Nat) :
    Pair K B (w.drewN m) b g c n p gy acc ay sx sy f v A1 A2 S1 S2 :=
  { h with fx := h.fx.drewN m, fy := h.fy.drewN m, bx := h.bx.drewN m, bv := h.bv.drewN m }
/-- What is read of a result behind it: its form, its mode. -/
theorem SubR.cells {K : Nat} {w w' : World} {b g c : Nat} {neg : Bool} {S : Nat} (h : SubR K w w' b g c neg S) : ∃ fm : Nat, w'.cell? ⟨b, 3, none⟩ = some (.int .u8 (fm : Int)) ∧ (fm = 0 ∨ fm = 1) ∧ w'.cell? ⟨b, 1, none⟩ = some (.int .u8 0) := by
  obtain ⟨g', c', h, _⟩ := h
  rcases h with ⟨_, n, f, A, hF, _⟩ | ⟨_, k, f, ex, hF, _⟩
  · exact ⟨1, hF.c3, Or.inr rfl, hF.c1⟩
  · exact ⟨0, hF.c3, Or.inl rfl, hF.c1⟩
theorem SumR.cells {K : Nat} {w w' : World} {b g c : Nat} {neg : Bool} {S : Nat} (h : SumR K w w' b g c neg S) : w'.cell? ⟨b, 3, none⟩ = some (.int .u8 1) := by
  obtain ⟨g', c', ⟨n, f, A, hF, _⟩, _⟩ := h
  exact hF.c3
theorem SumR.of {K : Nat} {w w1 w' : World} {b g c : Nat} {neg : Bool} {S : Nat} (k : Fr w w1 b g) (h : SumR K w1 w' b g c neg S) : SumR K w w' b g c neg S := by
  obtain ⟨g', c', h1, h2, h3⟩ := h
  have hl : w.heap.size ≤ w1.heap.size := k.2.1
  exact ⟨g', c', h1, h2.imp id (fun e => ⟨Nat.le_trans hl e.1, e.2⟩), k.trans h3 (Or.inl rfl)⟩
theorem SubR.of {K : Nat} {w w1 w' : World} {b g c : Nat} {neg : Bool} {S : Nat} (k : Fr w w1 b g) (h : SubR K w1 w' b g c neg S) : SubR K w w' b g c neg S := by
  obtain ⟨g', c', h1, h2, h4, h3⟩ := h
  have hl : w.heap.size ≤ w1.heap.size := k.2.1
  exact ⟨g', c', h1, h2.imp id (fun e => ⟨Nat.le_trans hl e.1, e.2⟩), h4, k.trans h3 (Or.inl rfl)⟩

set_option maxRecDepth 20000 in
set_option maxHeartbeats 4000000 in
/-- One sign. -/
theorem add_like {K B : Nat} {w : World} {b g c n p gy : Nat} {acc ay : Int} {s : Bool} {f : Nat → Nat} {v A1 A2 S1 S2 : Nat} (h : Pair K B w b g c n p gy acc ay s s f v A1 A2 S1 S2) :
    Calls Tryz.prog 9 #[.pointer (some ⟨b, 0, none⟩), .pointer (some ⟨b, 0, none⟩), .pointer (some ⟨p, 0, none⟩)] w fun e w' => e = .returned (.pointer (some ⟨b, 0, none⟩)) ∧ SumR K w w' b g c s (S1 + S2) := by
  have HU := Lib.hid (uadd_any (h.s4 s))
  have x0 := h.fx.c0
  have x3 := h.fx.c3
  have x4 := h.fx.c4
  have xf := h.fx.fr 4
  have y3 := h.fy.c3
  have y4 := h.fy.c4
  have HFr := Lib.hid ((Fr.refl w b g).setB 4 (.bool s))
  have eb : (s == s) = true := by simp
  clear h
  go_enter Tryz.func9, Tryz.ntmps9
  go_wp2_with fail
  refine HU.out.mono ?_; rintro e w1 ⟨rfl, hR⟩
  have HR := Lib.hid (hR.of HFr.out)
  have z3 := hR.cells
  clear hR x0 x3 x4 xf y3 y4
  go_wp2
  go_ret
  exact ⟨rfl, HR.out⟩
end Go.Proofs.YtmkdcnemocdefaaGreatFmt
