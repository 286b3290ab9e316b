/- An error's number: what coded of package meridianlaw4 answers. -/
import Derived.Test.YtbafddlkeocpeaaGreatDoorCode
namespace Go.Proofs.YtbafddlkeocpeaaGreatDoor
open Go.RowKit

theorem coded4_err (ad : Nat → Addr) (i : Nat) (code : Int) (hi : i < 10) (hc : (i : Int) + 1 = code) (w : World) (h : Sents w ad) :
    Calls Tryz.prog 6 #[errV ad i, .int .i64 code] w fun e w' => e = .returned (.bool true) ∧ Below w.heap.size w w' := by
  have HC := Lib.hid (code_err ad i hi w h)
  have b0 : ((i : Int) + 1 == code) = true := by simpa using hc
  clear h
  unfold errV at HC ⊢
  go_enter Tryz.func6, Tryz.ntmps6
  go_wp2_with fail
  refine HC.out.mono ?_; rintro e w1 ⟨rfl, hb1⟩
  go_wp2
  go_ret
  exact ⟨rfl, hb1⟩
theorem coded4_nil (w : World) :
    Calls Tryz.prog 6 #[.nilIface, .int .i64 0] w fun e w' => e = .returned (.bool true) ∧ Below w.heap.size w w' := by
  have HC := Lib.hid (code_nil w)
  go_enter Tryz.func6, Tryz.ntmps6
  go_wp2_with fail
  refine HC.out.mono ?_; rintro e w1 ⟨rfl, hb1⟩
  go_wp2
  go_ret
  exact ⟨rfl, hb1⟩
end Go.Proofs.YtbafddlkeocpeaaGreatDoor
