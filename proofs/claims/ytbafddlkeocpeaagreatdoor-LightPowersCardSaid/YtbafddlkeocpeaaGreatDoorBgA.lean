/- math/big's alias, at numbers that do not share their words. -/
import Derived.Test.YtbafddlkeocpeaaGreatDoorBgF
import Derived.LaidEqlPtr
namespace Go.Proofs.YtbafddlkeocpeaaGreatDoor
open Go.RowKit

theorem wptr_ne (a i b j : Nat) (hne : a ≠ b) (ca cb : Array Value) (w : World) (ha : w.heap[a]? = some (.cells ca 71)) (hb : w.heap[b]? = some (.cells cb 71)) :
    (binOp .eql 96 (.pointer (some ⟨a, i, none⟩)) (.pointer (some ⟨b, j, none⟩))).run Tryz.prog w = .ok (.bool false) w := by
  obtain ⟨k, hk, hs⟩ : ∃ k, Tryz.prog.info? 71 = some k ∧ k.size ≠ 0 := by
    have h : (Tryz.prog.info? 71).map (fun i => i.size) = some 1 := by kernel_rfl
    obtain ⟨j, h1, h2⟩ := Option.map_eq_some_iff.1 h
    exact ⟨j, h1, by omega⟩
  exact run_eql_ptr_other w (tp := 96) (te := 71) Tryz.underlying96 hk hs (fun e => hne (by cases e; rfl)) ha hb
theorem heap_drewN (w : World) (n : Nat) : (w.drewN n).heap = w.heap := by
  induction n with
  | zero => rfl
  | succ n ih => exact ih
theorem alias_0 (gt : Nat) (w : World) :
    Calls Tryz.prog 40 #[.slice none 0 0, .slice (some ⟨gt, 0, none⟩) 1 1] w fun e w' => e = .returned (.bool false) ∧ ∃ n, w' = w.drewN n := by
  go_enter Tryz.func40, Tryz.ntmps40
  go_wp2
  go_quiet (fail)
  go_wp2
  go_ret
  exact ⟨rfl, _, rfl⟩
theorem alias_1 (g k gt : Nat) (hne : g ≠ gt) (cg ct : Array Value) (w : World) (ha : w.heap[g]? = some (.cells cg 71)) (hb : w.heap[gt]? = some (.cells ct 71)) :
    Calls Tryz.prog 40 #[.slice (some ⟨g, 0, none⟩) k 6, .slice (some ⟨gt, 0, none⟩) 1 1] w fun e w' => e = .returned (.bool false) ∧ ∃ n, w' = w.drewN n := by
  have he := fun n => wptr_ne g 5 gt 0 hne _ _ (w.drewN n) (by rw [heap_drewN]; exact ha) (by rw [heap_drewN]; exact hb)
  have e5 : IntKind.i64.wrap 5 = 5 := by decide
  have e0 : IntKind.i64.wrap 0 = 0 := by decide
  clear ha hb
  go_enter Tryz.func40, Tryz.ntmps40
  go_wp2
  go_quiet (fail)
  go_wp2
  go_ret
  exact ⟨rfl, _, rfl⟩
end Go.Proofs.YtbafddlkeocpeaaGreatDoor
