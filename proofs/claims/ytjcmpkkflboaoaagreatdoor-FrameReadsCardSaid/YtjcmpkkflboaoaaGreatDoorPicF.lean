/- frame.At; the example of package meridianlaw4 on it. -/
import Derived.Test.YtjcmpkkflboaoaaGreatDoorPicE
namespace Go.Proofs.YtjcmpkkflboaoaaGreatDoor
open Go.RowKit

theorem at_in (ad : Nat → Addr) (W H x y : Int) (f : Nat → Int) (a : Option Addr) (n cap i : Nat) (w : World) (he : Errs w ad [1, 4]) (h : IRow w a n f) (g : picG W H n f) (x1 : 0 ≤ x) (x2 : x < W) (y1 : 0 ≤ y) (y2 : y < H) (hi : y * W + x = i) :
    Calls Tryz.prog 15 #[.agg #[.int .i64 W, .int .i64 H, .slice a n cap], .int .i64 x, .int .i64 y] w fun e w' => e = .returned (.tuple #[.int .i64 (f i), .bool true]) ∧ Below w.heap.size w w' := by
  have hb0 : ∀ o, Below w.heap.size w (w.alloc o) := fun o => (Below.refl _ _).alloc (Nat.le_refl _) _
  have HV := Lib.hid (fun o => validP_ok ad W H f a n cap (w.alloc o) (he.below (hb0 o)) (h.below (hb0 o)) g)
  have q1 : 0 ≤ y * W := Int.mul_nonneg y1 (by omega)
  have q2 : y * W ≤ 65536 := by
    have := Int.mul_le_mul (show y ≤ (256 : Int) by have := g.2.2.2.1; omega) (show W ≤ (256 : Int) by have := g.2.1; omega) (by omega) (by decide)
    omega
  have hin : i < n := by
    obtain ⟨_, _, _, _, c4, _⟩ := g
    have h1 := Int.mul_le_mul_of_nonneg_right (show y + 1 ≤ H by omega) (show 0 ≤ W by omega)
    rw [Int.add_mul, Int.one_mul, Int.mul_comm H] at h1
    omega
  obtain ⟨ba, oa, rfl, hba, ca⟩ := h.at hin
  have CA := Lib.hid ca
  have wb : W ≤ 256 := g.2.1
  have hb : H ≤ 256 := g.2.2.2.1
  clear he h g ca
  go_enter Tryz.func15, Tryz.ntmps15
  go_wp2_with fail
  refine (HV.out _).mono ?_; rintro e w1 ⟨rfl, hb1⟩
  have q0 : w1.cell? ⟨w.heap.size, 0, none⟩ = some (.int .i64 W) := by rw [hb1.cell (p := ⟨w.heap.size, 0, none⟩) (by simp)]; simp
  have q3 : w1.cell? ⟨w.heap.size, 1, none⟩ = some (.int .i64 H) := by rw [hb1.cell (p := ⟨w.heap.size, 1, none⟩) (by simp)]; simp
  have q4 : w1.cell? ⟨w.heap.size, 2, none⟩ = some (.slice (some ⟨ba, oa, none⟩) n cap) := by rw [hb1.cell (p := ⟨w.heap.size, 2, none⟩) (by simp)]; simp
  have hbw := below_step (hb0 _) hb1
  have c1 : w1.cell? ⟨ba, oa + i, none⟩ = some (.int .i64 (f i)) := by rw [hbw.cell (p := ⟨ba, oa + i, none⟩) hba]; exact CA.out
  have HB := Lib.hid hbw
  clear hbw hb1 hb0 HV CA
  go_wp2
  go_ret2
  exact ⟨rfl, HB.out⟩

theorem framed_any (ad : Nat → Addr) (w : World) (he : Errs w ad [1, 4]) :
    Calls Tryz.prog 5 #[] w fun e w' => e = .returned (.bool true) ∧ Below w.heap.size w w' := by
  have hb0 : ∀ o, Below w.heap.size w (w.alloc o) := fun o => (Below.refl _ _).alloc (Nat.le_refl _) _
  have HA := Lib.hid (fun T => at_in ad 1 1 0 0 (fun _ => 7) (some ⟨w.heap.size, 0, none⟩) 1 1 0 (w.alloc (.cells #[.int .i64 7] T)) (he.below (hb0 _)) (Or.inr ⟨_, _, rfl, fun j hj => by
    obtain rfl : j = 0 := by omega
    simp⟩) ⟨by decide, by decide, by decide, by decide, by decide, fun _ _ => (by decide : (0 : Int) ≤ 7 ∧ (7 : Int) ≤ 65535)⟩ (by decide) (by decide) (by decide) (by decide) rfl)
  clear he
  go_enter Tryz.func5, Tryz.ntmps5
  go_wp2_with fail
  refine (HA.out _).mono ?_; rintro e w1 ⟨rfl, hb1⟩
  have HB := Lib.hid (below_step (hb0 _) hb1)
  clear hb0 hb1 HA
  go_wp2
  go_ret
  exact ⟨rfl, HB.out⟩
end Go.Proofs.YtjcmpkkflboaoaaGreatDoor
