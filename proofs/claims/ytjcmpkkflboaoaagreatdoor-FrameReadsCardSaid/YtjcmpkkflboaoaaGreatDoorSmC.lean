/- sameCards of package meridianlaw4, at cards that are the same. -/
import Derived.Test.YtjcmpkkflboaoaaGreatDoorCrdE
namespace Go.Proofs.YtjcmpkkflboaoaaGreatDoor
open Go.RowKit

set_option maxRecDepth 10000 in
set_option maxHeartbeats 1000000 in
theorem sameCards_any (cs : List Crd) (a a' : Option Addr) (cap cap' : Nat) (w : World) (h : CRow w a cs) (h' : CRow w a' cs) (hn : cs.length ≤ 1000000) :
    Calls Tryz.prog 12 #[.slice a cs.length cap, .slice a' cs.length cap'] w fun e w' => e = .returned (.bool true) ∧ Below w.heap.size w w' := by
  have HA := Lib.hid (fun i (hi : i < cs.length) W' (hb : Below w.heap.size w W') => (h.below hb).at hi)
  have HB := Lib.hid (fun i (hi : i < cs.length) W' (hb : Below w.heap.size w W') => (h'.below hb).at hi)
  clear h h'
  generalize cs.length = L at *
  go_enter Tryz.func12, Tryz.ntmps12
  go_wp2
  go_loopw [5] (fun i wr => ∃ k : Nat, k ≤ L ∧ i = .int .i64 k ∧ Hid (Below w.heap.size w wr)) (fun i _ => L - (intOf i).toNat)
  case atStart => exact ⟨0, Nat.zero_le _, rfl, Lib.hid (Below.refl _ _)⟩
  case round =>
    obtain ⟨k, hk, rfl, hG⟩ := hrel
    by_cases hlt : k < L
    · obtain ⟨b, o, rfl, _, ⟨c1, c2⟩, _⟩ := HA.out k hlt wr hG.out
      obtain ⟨b', o', rfl, _, ⟨d1, d2⟩, _⟩ := HB.out k hlt wr hG.out
      generalize bs (nmC cs k) = s at *
      generalize bs (vlC cs k) = t at *
      go_wp2
      go_quiet (fail)
      have HG := Lib.hid (below_drewN hG.out nq)
      go_wp2
      go_roundw
      case rel => exact ⟨k + 1, by omega, by go_num, HG⟩
      case measure => simp [intOf]; omega
    · go_wp2
      go_ret
      exact ⟨rfl, hG.out⟩
end Go.Proofs.YtjcmpkkflboaoaaGreatDoor
