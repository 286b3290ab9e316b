/- The product of two numbers, one of them nought. -/
import Derived.Test.YtbafddlkeocpeaaGreatDoorBgM
namespace Go.Proofs.YtbafddlkeocpeaaGreatDoor
open Go.RowKit

set_option maxHeartbeats 2000000 in
set_option maxRecDepth 20000 in
theorem intMul_0 (B p px py : Nat) (x y : Int) (h0 : x = 0 ∨ y = 0) (w : World) (hp : B ≤ p)
    (X : Int1 w B px x) (Y : Int1 w B py y) (hpx : p ≠ px) (hpy : p ≠ py) (hxy : px ≠ py) (p0 : w.heap[p]? = some (.cells #[.bool false, .slice none 0 0] 52)) :
    Calls Tryz.prog 39 #[.pointer (some ⟨p, 0, none⟩), .pointer none, .pointer (some ⟨px, 0, none⟩), .pointer (some ⟨py, 0, none⟩)] w fun e w' =>
      e = .returned (.tuple #[]) ∧ Prd w' B p false 0 ∧ Below B w w' := by
  obtain ⟨ax, lx, cx, bx, ox, ex⟩ : ∃ ax lx cx bx, w.heap[px]? = some (.cells #[.bool bx, .slice ax lx cx] 52) ∧ (x = 0 ∧ ax = none ∧ lx = 0 ∧ cx = 0 ∨ x ≠ 0 ∧ lx = 1) := by
    obtain ⟨x1, ⟨x4, x5⟩ | ⟨x4, gx, x5, x7, x8, x9⟩⟩ := X
    · exact ⟨_, _, _, _, x5, Or.inl ⟨x4, rfl, rfl, rfl⟩⟩
    · exact ⟨_, _, _, _, x8, Or.inr ⟨x4, rfl⟩⟩
  obtain ⟨ay, ly, cy, by', oy, ey⟩ : ∃ ay ly cy by', w.heap[py]? = some (.cells #[.bool by', .slice ay ly cy] 52) ∧ (y = 0 ∧ ay = none ∧ ly = 0 ∧ cy = 0 ∨ y ≠ 0 ∧ ly = 1) := by
    obtain ⟨x1, ⟨x4, x5⟩ | ⟨x4, gx, x5, x7, x8, x9⟩⟩ := Y
    · exact ⟨_, _, _, _, x5, Or.inl ⟨x4, rfl, rfl, rfl⟩⟩
    · exact ⟨_, _, _, _, x8, Or.inr ⟨x4, rfl⟩⟩
  have H : Hid (∀ W, Calls Tryz.prog 53 #[.slice none 0 0, .pointer none, .slice ax lx cx, .slice ay ly cy] W fun e w' => e = .returned (.slice none 0 0) ∧ w' = W) := Lib.hid (fun W => by
    rcases ey with ⟨_, rfl, rfl, rfl⟩ | ⟨hy, rfl⟩
    · exact natMul_n0 ax lx cx (by omega) W
    · rcases ex with ⟨_, rfl, rfl, rfl⟩ | ⟨hx, rfl⟩
      · exact natMul_0n ay cy W
      · omega)
  have hpe := ptr_ne px py hxy _ _ w ox oy
  have lp := heap_lt p0
  have c0 := heap_cell p0 1 rfl
  have c1 := heap_cell ox 1 rfl
  have c2 := heap_cell oy 1 rfl
  have P0 := Lib.hid p0
  have f1 := heap_frozen p0 1
  clear ex ey h0 X Y ox oy p0
  go_enter Tryz.func39, Tryz.ntmps39
  go_upto_region 3 with (fail)
  go_cut [] (fun wx => wx = (w.setCell ⟨p, 1, none⟩ (.slice none 0 0)).drew)
  case first =>
    go_region_with (go_at_call 53; refine (H.out _).mono ?_; rintro e w' ⟨rfl, rfl⟩)
    all_goals
      go_wp2_with fail
      go_meet
      rfl
  case rest =>
    subst hcut
    have op : (w.setCell ⟨p, 1, none⟩ (.slice none 0 0)).drew.heap[p]? = some (.cells #[.bool false, .slice none 0 0] 52) := heap_set (w := w) P0.out 1 _
    have hB' : Below B w (w.setCell ⟨p, 1, none⟩ (.slice none 0 0)).drew := (Below.setCell (Below.refl B w) hp _).drew
    generalize (w.setCell ⟨p, 1, none⟩ (.slice none 0 0)).drew = W at *
    have c0 := heap_cell op 0 rfl
    have c1 := heap_cell op 1 rfl
    have f0 := heap_frozen op 0
    have OP := Lib.hid op
    clear op hpe H
    go_wp2
    go_region
    all_goals
      go_wp2
      go_end0
      exact ⟨rfl, Or.inl ⟨rfl, heap_set OP.out 0 (.bool false)⟩, (hB'.setCell hp _).drew⟩
end Go.Proofs.YtbafddlkeocpeaaGreatDoor
