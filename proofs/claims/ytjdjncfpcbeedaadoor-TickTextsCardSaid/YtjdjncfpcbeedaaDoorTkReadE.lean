/- Reading a stamp under a wrong table: both sides. -/
import Derived.Test.YtjdjncfpcbeedaaDoorTkRead
namespace Go.Proofs.YtjdjncfpcbeedaaDoor
open Go.RowKit

set_option maxRecDepth 20000 in
set_option maxHeartbeats 2000000 in
theorem tkRead_err (V : Value) (s : ByteArray) (T : TypeId) (p : Value) (w : World)
    (HV : Hid (∀ o, Calls Tryd.prog 55 #[V] (w.alloc o) fun e w' => e = .returned (.iface T p) ∧ Below (w.alloc o).heap.size (w.alloc o) w')) :
    Calls Tryd.prog 25 #[V, .string s] w fun e w' => e = .returned (.tuple #[.agg #[.int .i64 0, .int .i64 0], .iface T p]) ∧ Below w.heap.size w w' := by
  go_enter Tryd.func25, Tryd.ntmps25
  go_wp2_with fail
  refine (HV.out _).mono ?_; rintro e w1 ⟨rfl, hb1⟩
  have hs1 : w.heap.size < w1.heap.size := by have := hb1.size; simp at this; omega
  have y0 : w1.cell? ⟨w.heap.size, 0, none⟩ = some (.int .i64 0) := by rw [hb1.cell (p := ⟨w.heap.size, 0, none⟩) (by simp)]; simp
  have y1 : w1.cell? ⟨w.heap.size, 1, none⟩ = some (.int .i64 0) := by rw [hb1.cell (p := ⟨w.heap.size, 1, none⟩) (by simp)]; simp
  have z0 : w1.frozen? ⟨w.heap.size, 0, none⟩ = false := by rw [hb1.frozen (p := ⟨w.heap.size, 0, none⟩) (by simp)]; simp
  have z1 : w1.frozen? ⟨w.heap.size, 1, none⟩ = false := by rw [hb1.frozen (p := ⟨w.heap.size, 1, none⟩) (by simp)]; simp
  have HB := Lib.hid (below_step ((Below.refl _ _).alloc (Nat.le_refl _) _) hb1)
  clear hb1 HV
  go_wp2
  all_goals try go_region
  all_goals
    go_wp2
    refine bodyPost_ret (v := .tuple #[.agg #[.int .i64 0, .int .i64 0], .iface T p]) ?_ rfl ?_
    · simp [results, Tryd.results25, go_sem, y0, y1, z0, z1]
    · exact ⟨rfl, by first | exact (HB.out.setCell (Nat.le_refl _) _).setCell (Nat.le_refl _) _ | exact ((HB.out.setCell (Nat.le_refl _) _).setCell (Nat.le_refl _) _).drew | exact ((HB.out.drew.setCell (Nat.le_refl _) _).setCell (Nat.le_refl _) _)⟩
set_option maxRecDepth 20000 in
set_option maxHeartbeats 2000000 in
theorem refRead_err (V : Value) (s : ByteArray) (e0 : Int) (he : 0 < e0) (w : World)
    (HV : Hid (∀ o1 o2, Calls Tryd.prog 57 #[V] ((w.alloc o1).alloc o2) fun e w' => e = .returned (.int .i64 e0) ∧ (w.alloc o1).alloc o2 = w')) :
    Calls Tryd.prog 26 #[V, .string s] w fun e w' => e = .returned (.tuple #[.agg #[.int .i64 0, .int .i64 0], .agg #[.int .i64 e0, .int .i64 (-1)]]) ∧ Below w.heap.size w w' := by
  go_enter Tryd.func26, Tryd.ntmps26
  go_wp2_with fail
  refine (HV.out _ _).mono ?_; rintro e w1 ⟨rfl, rfl⟩
  clear HV
  go_wp2
  all_goals try go_region
  all_goals go_wp2
  all_goals
    refine bodyPost_ret (v := .tuple #[.agg #[.int .i64 0, .int .i64 0], .agg #[.int .i64 e0, .int .i64 (-1)]]) ?_ rfl ?_
    · simp [results, Tryd.results26, go_sem]
    · exact ⟨rfl, by go_grown⟩
end Go.Proofs.YtjdjncfpcbeedaaDoor
