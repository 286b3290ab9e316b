/- The greatest common divisor: what tick.gcd computes. -/
import Derived.Test.YtegnjiecninlaaaDoorTab
namespace Go.Proofs.YtegnjiecninlaaaDoor
open Go.RowKit

theorem gcd_step (x y : Int) : Int.gcd y (x.tmod y) = Int.gcd x y := by
  unfold Int.gcd
  rw [Int.natAbs_tmod, Nat.gcd_comm, ← Nat.gcd_rec, Nat.gcd_comm]
theorem tmod_less (x : Int) {y : Int} (h : y ≠ 0) : (x.tmod y).natAbs < y.natAbs := by
  rw [Int.natAbs_tmod]; exact Nat.mod_lt _ (by omega)
theorem tmod_small (x y : Int) {B : Int} (h : -B ≤ x ∧ x ≤ B) : -B ≤ x.tmod y ∧ x.tmod y ≤ B := by
  have : (x.tmod y).natAbs ≤ x.natAbs := by rw [Int.natAbs_tmod]; exact Nat.mod_le _ _
  omega

theorem gcd_any (a b : Int) (ha : -600000000000000000 ≤ a ∧ a ≤ 600000000000000000) (hb : -600000000000000000 ≤ b ∧ b ≤ 600000000000000000) (w : World) :
    Calls Tryd.prog 54 #[.int .i64 a, .int .i64 b] w fun e w' => e = .returned (.int .i64 (Int.gcd a b)) ∧ Below w.heap.size w w' := by
  go_enter Tryd.func54, Tryd.ntmps54
  go_wp2
  go_loopw [0, 1] (fun u v wr => ∃ x y : Int, u = .int .i64 x ∧ v = .int .i64 y ∧ Hid (Int.gcd x y = Int.gcd a b) ∧ (-600000000000000000 ≤ x ∧ x ≤ 600000000000000000) ∧ (-600000000000000000 ≤ y ∧ y ≤ 600000000000000000) ∧ Hid (Below w.heap.size w wr)) (fun _ v _ => (intOf v).natAbs)
  case atStart => exact ⟨a, b, rfl, rfl, rfl, ha, hb, Below.refl _ _⟩
  case round =>
    obtain ⟨x, y, rfl, rfl, hg, hx, hy, hB⟩ := hrel
    clear ha hb
    by_cases c : y = 0
    · have hz : Int.gcd a b = x.natAbs := by have := hg.out; rw [c, Int.gcd_zero_right] at this; exact this.symm
      have HZ := Lib.hid hz
      have c0 : (y != 0) = false := by simpa using c
      clear hg hz
      by_cases s : x < 0
      · go_wp2
        go_ret
        exact ⟨by rw [HZ.out, show ((x.natAbs : Nat) : Int) = -x by omega]; rfl, hB.out⟩
      · go_wp2
        go_ret
        exact ⟨by rw [HZ.out, show ((x.natAbs : Nat) : Int) = x by omega]; rfl, hB.out⟩
    · have hm := tmod_small x y hx
      have HG := Lib.hid ((gcd_step x y).trans hg.out)
      have HL := Lib.hid (tmod_less x c)
      have c0 : (y != 0) = true := by simpa using c
      have c1 : (y == 0) = false := by simpa using c
      clear hg
      go_wp2
      go_quiet (fail)
      go_wp2
      go_roundw
      case rel => exact ⟨y, x.tmod y, rfl, rfl, HG, hy, hm, below_drewN hB.out _⟩
      case measure => exact HL.out
end Go.Proofs.YtegnjiecninlaaaDoor
