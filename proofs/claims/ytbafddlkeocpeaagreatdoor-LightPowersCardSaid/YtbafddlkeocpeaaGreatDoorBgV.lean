/- Division by a turn: divW and its kin, at numbers of one word or two. -/
import Derived.Test.YtbafddlkeocpeaaGreatDoorBgI
namespace Go.Proofs.YtbafddlkeocpeaaGreatDoor
open Go.RowKit

/-- Nothing but block g has turned of what was there. -/
def Kept (w w' : World) (g : Nat) : Prop := ∀ b, b < w.heap.size → b ≠ g → w'.heap[b]? = w.heap[b]?

set_option maxRecDepth 20000 in
theorem divRow_1 (z g : Nat) (x : Nat) (hx : x < 18446744073709551616) (w : World) (hX : w.cell? ⟨g, 0, none⟩ = some (.int .u64 (x : Int))) (z0 : Value) (hZ : w.cell? ⟨z, 0, none⟩ = some z0) (hF : w.frozen? ⟨z, 0, none⟩ = false) (cg : Nat) :
    Calls Tryz.prog 97 #[.slice (some ⟨z, 0, none⟩) 1 1, .int .u64 0, .slice (some ⟨g, 0, none⟩) 1 cg, .int .u64 1296000000000] w fun e w' =>
      e = .returned (.int .u64 ((x % 1296000000000 : Nat) : Int)) ∧ ∃ w1, Below w.heap.size w w1 ∧ w' = w1.setCell ⟨z, 0, none⟩ (.int .u64 ((x / 1296000000000 : Nat) : Int)) := by
  have H := Lib.hid (fun W => div_small x hx W)
  generalize hq : x / 1296000000000 = q at *
  generalize hr : x % 1296000000000 = r at *
  have FX : Hid (∀ w', Below w.heap.size w w' → w'.cell? ⟨z, 0, none⟩ = some z0 ∧ w'.frozen? ⟨z, 0, none⟩ = false) := Lib.hid (fun w' hb => ⟨by rw [hb.cell (p := ⟨z, 0, none⟩) (cell_lt hZ)]; exact hZ, by rw [hb.frozen (p := ⟨z, 0, none⟩) (cell_lt hZ)]; exact hF⟩)
  go_enter Tryz.func97, Tryz.ntmps97
  go_wp2_with fail
  refine (H.out _).mono ?_; rintro e w1 ⟨rfl, hb⟩
  obtain ⟨a1, a2⟩ := FX.out w1 hb
  go_wp2
  go_ret
  exact ⟨rfl, w1, hb, rfl⟩
set_option maxRecDepth 20000 in
set_option maxHeartbeats 1000000 in
theorem divRow_2 (z g : Nat) (x1 x0 : Nat) (h1 : x1 < 1296000000000) (h0 : x0 < 18446744073709551616) (hzg : z ≠ g) (w : World) (hX0 : w.cell? ⟨g, 0, none⟩ = some (.int .u64 (x0 : Int))) (hX1 : w.cell? ⟨g, 1, none⟩ = some (.int .u64 (x1 : Int)))
    (z0 z1 : Value) (hZ0 : w.cell? ⟨z, 0, none⟩ = some z0) (hZ1 : w.cell? ⟨z, 1, none⟩ = some z1) (hF0 : w.frozen? ⟨z, 0, none⟩ = false) (hF1 : w.frozen? ⟨z, 1, none⟩ = false) (cg cz : Nat) :
    Calls Tryz.prog 97 #[.slice (some ⟨z, 0, none⟩) 2 cz, .int .u64 0, .slice (some ⟨g, 0, none⟩) 2 cg, .int .u64 1296000000000] w fun e w' =>
      e = .returned (.int .u64 (((x1 * 18446744073709551616 + x0) % 1296000000000 : Nat) : Int)) ∧ Kept w w' z ∧ Below z w w' ∧ (∃ q0 q1, w'.cell? ⟨z, 0, none⟩ = some (.int .u64 ((q0 : Nat) : Int)) ∧ w'.cell? ⟨z, 1, none⟩ = some (.int .u64 ((q1 : Nat) : Int))) := by
  have R := Lib.hid (fun W => rec_T W)
  have D1 : Hid (∀ W, Calls Tryz.prog 122 #[.int .u64 0, .int .u64 (x1 : Int), .int .u64 1296000000000, .int .u64 12853270746740557062] W fun e w' => e = .returned (.tuple #[.int .u64 0, .int .u64 (x1 : Int)]) ∧ Below W.heap.size W w') := Lib.hid (fun W => by
    have h := divWW_T 0 x1 (by omega) (by omega) W
    rw [show (0 * 18446744073709551616 + x1) / 1296000000000 = 0 by omega, show (0 * 18446744073709551616 + x1) % 1296000000000 = x1 by omega] at h
    exact h)
  have D2 := Lib.hid (fun W => divWW_T x1 x0 h1 h0 W)
  generalize (x1 * 18446744073709551616 + x0) / 1296000000000 = q at *
  generalize (x1 * 18446744073709551616 + x0) % 1296000000000 = r at *
  have lz := cell_lt hZ0
  have lg := cell_lt hX0
  have FX : Hid (∀ w', Below w.heap.size w w' → w'.cell? ⟨g, 1, none⟩ = some (.int .u64 (x1 : Int)) ∧ w'.cell? ⟨z, 1, none⟩ = some z1 ∧ w'.frozen? ⟨z, 1, none⟩ = false ∧ w'.cell? ⟨g, 0, none⟩ = some (.int .u64 (x0 : Int)) ∧ w'.cell? ⟨z, 0, none⟩ = some z0 ∧ w'.frozen? ⟨z, 0, none⟩ = false) := Lib.hid (fun w' hb => ⟨by rw [hb.cell (p := ⟨g, 1, none⟩) lg]; exact hX1, by rw [hb.cell (p := ⟨z, 1, none⟩) lz]; exact hZ1, by rw [hb.frozen (p := ⟨z, 1, none⟩) lz]; exact hF1, by rw [hb.cell (p := ⟨g, 0, none⟩) lg]; exact hX0, by rw [hb.cell (p := ⟨z, 0, none⟩) lz]; exact hZ0, by rw [hb.frozen (p := ⟨z, 0, none⟩) lz]; exact hF0⟩)
  clear hX0 hX1 hZ0 hZ1 hF0 hF1
  go_enter Tryz.func97, Tryz.ntmps97
  go_wp2_with fail
  refine (R.out _).mono ?_; rintro e w1 ⟨rfl, hb1⟩
  have HB1 := Lib.hid hb1
  obtain ⟨a1, _, _, _, _, _⟩ := FX.out w1 hb1
  clear hb1
  go_wp2
  refine wp_loop_rounds 3 ?_
  rw [rounds_succ]
  go_wp2_with fail
  refine (D1.out _).mono ?_; rintro e w2 ⟨rfl, hb2⟩
  have HB2 := Lib.hid (HB1.out.trans (hb2.mono HB1.out.size))
  obtain ⟨_, b1, b2, b3, b4, b5⟩ := FX.out w2 HB2.out
  have s2 := HB2.out.size
  clear hb2 a1
  go_wp2
  rw [rounds_succ]
  have c3 : (w2.setCell ⟨z, 1, none⟩ (.int .u64 0)).cell? ⟨g, 0, none⟩ = some (.int .u64 (x0 : Int)) := by rw [World.cell?_setCell_far w2 ⟨z, 1, none⟩ ⟨g, 0, none⟩ _ hzg]; exact b3
  have c4 : (w2.setCell ⟨z, 1, none⟩ (.int .u64 0)).cell? ⟨z, 0, none⟩ = some z0 := by rw [World.cell?_setCell_other _ _ _ _ (by simp)]; exact b4
  have c5 : (w2.setCell ⟨z, 1, none⟩ (.int .u64 0)).frozen? ⟨z, 0, none⟩ = false := by rw [World.frozen?_setCell]; exact b5
  have c6 : (w2.setCell ⟨z, 1, none⟩ (.int .u64 0)).cell? ⟨z, 1, none⟩ = some (.int .u64 0) := World.cell?_setCell_same _ _ _ b1
  have hK : ∀ b, b < w.heap.size → b ≠ z → (w2.setCell ⟨z, 1, none⟩ (.int .u64 0)).heap[b]? = w.heap[b]? := fun b hb hne => by rw [heap_set_far hne]; exact HB2.out.block b hb
  have s3 : w.heap.size ≤ (w2.setCell ⟨z, 1, none⟩ (.int .u64 0)).heap.size := by rw [World.size_setCell]; exact s2
  have hBz : Below z w (w2.setCell ⟨z, 1, none⟩ (.int .u64 0)) := (HB2.out.mono (B' := z) (by omega)).setCell (Nat.le_refl _) _
  have HK := Lib.hid hK
  have HBz := Lib.hid hBz
  clear hK hBz b1 b2 b3 b4 b5
  generalize w2.setCell ⟨z, 1, none⟩ (.int .u64 0) = W at *
  go_wp2_with fail
  refine (D2.out _).mono ?_; rintro e w3 ⟨rfl, hb3⟩
  have lzW : z < W.heap.size := by omega
  have d4 : w3.cell? ⟨z, 0, none⟩ = some z0 := by rw [hb3.cell (p := ⟨z, 0, none⟩) lzW]; exact c4
  have d5 : w3.frozen? ⟨z, 0, none⟩ = false := by rw [hb3.frozen (p := ⟨z, 0, none⟩) lzW]; exact c5
  have d6 : w3.cell? ⟨z, 1, none⟩ = some (.int .u64 0) := by rw [hb3.cell (p := ⟨z, 1, none⟩) lzW]; exact c6
  have HB3 := Lib.hid hb3
  clear hb3 c3 c4 c5 c6
  go_wp2
  rw [rounds_succ]
  go_wp2
  go_ret
  refine ⟨rfl, fun b hb hne => ?_, (HBz.out.trans (HB3.out.mono (B' := z) (by omega))).setCell (Nat.le_refl _) _, q, 0, World.cell?_setCell_same _ _ _ d4, ?_⟩
  · rw [heap_set_far hne, HB3.out.block _ (by omega)]; exact HK.out b hb hne
  · rw [World.cell?_setCell_other _ _ _ _ (by simp)]; exact d6
end Go.Proofs.YtbafddlkeocpeaaGreatDoor
