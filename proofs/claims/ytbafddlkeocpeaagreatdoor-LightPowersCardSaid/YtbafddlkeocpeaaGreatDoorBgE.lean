/- nat.div by a turn, at numbers of one word or two. -/
import Derived.Test.YtbafddlkeocpeaaGreatDoorBgV
namespace Go.Proofs.YtbafddlkeocpeaaGreatDoor
open Go.RowKit

theorem make_one (w : World) :
    Calls Tryz.prog 61 #[.slice none 0 0, .int .i64 1] w fun e w' => e = .returned (.slice (some ⟨w.heap.size, 0, none⟩) 1 1) ∧ w' = wordsW w 1 := by
  have h : ∀ W, (Instr.makeSlice 50 (.int .i64 1) (.int .i64 1)).run Tryz.prog W = .ok (.slice (some ⟨W.heap.size, 0, none⟩) 1 1) (wordsW W 1) := fun W => run_words 1 1 (by omega) (by omega) W
  go_enter Tryz.func61, Tryz.ntmps61
  go_wp2
  go_ret
  exact ⟨rfl, rfl⟩
theorem make_old (g k : Nat) (w : World) :
    Calls Tryz.prog 61 #[.slice (some ⟨g, 0, none⟩) k 6, .int .i64 1] w fun e w' => e = .returned (.slice (some ⟨g, 0, none⟩) 1 6) ∧ w' = w := by
  go_enter Tryz.func61, Tryz.ntmps61
  go_wp2
  go_ret
  exact ⟨rfl, rfl⟩
theorem setWord_0 (a : Option Addr) (g k c : Nat) (ha : a = some ⟨g, 0, none⟩ ∨ (a = none ∧ k = 0 ∧ c = 0)) (hk : k ≤ c) (hc : c ≤ 6) (w : World) :
    Calls Tryz.prog 76 #[.slice a k c, .int .u64 0] w fun e w' => e = .returned (.slice a 0 c) ∧ w' = w := by
  rcases ha with rfl | ⟨rfl, rfl, rfl⟩
  all_goals
    go_enter Tryz.func76, Tryz.ntmps76
    go_wp2
    go_ret
    exact ⟨rfl, rfl⟩
theorem setWord_1 (g k : Nat) (r : Nat) (hr : r ≠ 0) (v0 : Value) (w : World) (hc : w.cell? ⟨g, 0, none⟩ = some v0) (hf : w.frozen? ⟨g, 0, none⟩ = false) :
    Calls Tryz.prog 76 #[.slice (some ⟨g, 0, none⟩) k 6, .int .u64 (r : Int)] w fun e w' => e = .returned (.slice (some ⟨g, 0, none⟩) 1 6) ∧ w' = w.setCell ⟨g, 0, none⟩ (.int .u64 (r : Int)) := by
  have H := Lib.hid (fun W => make_old g k W)
  have hr' : ¬ ((r : Int) = 0) := by omega
  go_enter Tryz.func76, Tryz.ntmps76
  go_wp2_with fail
  refine (H.out _).mono ?_; rintro e w' ⟨rfl, rfl⟩
  go_wp2
  go_ret
  exact ⟨rfl, rfl⟩
theorem divW_1 (g cg x : Nat) (hx : x < 18446744073709551616) (w : World) (hX : w.cell? ⟨g, 0, none⟩ = some (.int .u64 (x : Int))) :
    Calls Tryz.prog 75 #[.slice none 0 0, .slice (some ⟨g, 0, none⟩) 1 cg, .int .u64 1296000000000] w fun e w' =>
      ∃ h kq cq, kq ≤ 2 ∧ e = .returned (.tuple #[.slice (some ⟨h, 0, none⟩) kq cq, .int .u64 ((x % 1296000000000 : Nat) : Int)]) ∧ Below w.heap.size w w' := by
  have lg := cell_lt hX
  have M := Lib.hid (fun W => make_one W)
  have hX' : (wordsW w 1).cell? ⟨g, 0, none⟩ = some (.int .u64 (x : Int)) := by rw [(words_below w 1).cell (p := ⟨g, 0, none⟩) lg]; exact hX
  have D := Lib.hid (divRow_1 w.heap.size g x hx (wordsW w 1) hX' _ (words_cell w 1 0 (by omega)) (words_frozen w 1 0) cg)
  generalize x % 1296000000000 = r at *
  generalize x / 1296000000000 = q at *
  go_enter Tryz.func75, Tryz.ntmps75
  go_wp2_with fail
  refine (M.out _).mono ?_; rintro e w1 ⟨rfl, rfl⟩
  go_wp2_with fail
  refine D.out.mono ?_; rintro e w2 ⟨rfl, w3, hb, rfl⟩
  have hb' : Below w.heap.size w (w3.setCell ⟨w.heap.size, 0, none⟩ (.int .u64 (q : Int))) := ((words_below w 1).trans (hb.mono (words_below w 1).size)).setCell (Nat.le_refl _) _
  have hc : WR (w3.setCell ⟨w.heap.size, 0, none⟩ (.int .u64 (q : Int))) w.heap.size 0 1 (fun _ => q) := by
    intro j hj
    obtain rfl : j = 0 := by omega
    refine World.cell?_setCell_same _ _ _ (u := .int .u64 0) ?_
    rw [hb.cell (p := ⟨w.heap.size, 0, none⟩) (by rw [words_size]; exact Nat.lt_succ_self _)]
    exact words_cell w 1 0 (by omega)
  generalize w3.setCell ⟨w.heap.size, 0, none⟩ (.int .u64 (q : Int)) = W at *
  go_wp2_with fail
  refine (norm_any' w.heap.size 0 1 1 (by omega) (by omega) _ _ hc).mono ?_; rintro e w4 ⟨k, rfl, ⟨hk, _, _⟩, rfl⟩
  go_wp2
  go_ret2
  exact ⟨w.heap.size, k, 1, by omega, rfl, hb'⟩
theorem divW_2 (g cg x1 x0 : Nat) (h1 : x1 < 1296000000000) (h0 : x0 < 18446744073709551616) (w : World) (hX0 : w.cell? ⟨g, 0, none⟩ = some (.int .u64 (x0 : Int))) (hX1 : w.cell? ⟨g, 1, none⟩ = some (.int .u64 (x1 : Int))) :
    Calls Tryz.prog 75 #[.slice none 0 0, .slice (some ⟨g, 0, none⟩) 2 cg, .int .u64 1296000000000] w fun e w' =>
      ∃ h kq cq, kq ≤ 2 ∧ e = .returned (.tuple #[.slice (some ⟨h, 0, none⟩) kq cq, .int .u64 (((x1 * 18446744073709551616 + x0) % 1296000000000 : Nat) : Int)]) ∧ Below w.heap.size w w' := by
  have lg := cell_lt hX0
  have M := Lib.hid (fun W => make_two W)
  have hX0' : (wordsW w 6).cell? ⟨g, 0, none⟩ = some (.int .u64 (x0 : Int)) := by rw [(words_below w 6).cell (p := ⟨g, 0, none⟩) lg]; exact hX0
  have hX1' : (wordsW w 6).cell? ⟨g, 1, none⟩ = some (.int .u64 (x1 : Int)) := by rw [(words_below w 6).cell (p := ⟨g, 1, none⟩) lg]; exact hX1
  have D := Lib.hid (divRow_2 w.heap.size g x1 x0 h1 h0 (by omega) (wordsW w 6) hX0' hX1' _ _ (words_cell w 6 0 (by omega)) (words_cell w 6 1 (by omega)) (words_frozen w 6 0) (words_frozen w 6 1) cg 6)
  generalize (x1 * 18446744073709551616 + x0) % 1296000000000 = r at *
  go_enter Tryz.func75, Tryz.ntmps75
  go_wp2_with fail
  refine (M.out _).mono ?_; rintro e w1 ⟨rfl, rfl⟩
  go_wp2_with fail
  refine D.out.mono ?_; rintro e w2 ⟨rfl, _, hb, q0, q1, c0, c1⟩
  have hb' : Below w.heap.size w w2 := (words_below w 6).trans hb
  have hc : WR w2 w.heap.size 0 2 (fun j => if j = 0 then q0 else q1) := by
    intro j hj
    have : j = 0 ∨ j = 1 := by omega
    rcases this with rfl | rfl
    · exact c0
    · exact c1
  clear c0 c1 hb
  go_wp2_with fail
  refine (norm_any' w.heap.size 0 2 6 (by omega) (by omega) _ _ hc).mono ?_; rintro e w4 ⟨k, rfl, ⟨hk, _, _⟩, rfl⟩
  go_wp2
  go_ret2
  exact ⟨w.heap.size, k, 6, hk, rfl, hb'⟩
theorem divW_0 (w : World) :
    Calls Tryz.prog 75 #[.slice none 0 0, .slice none 0 0, .int .u64 1296000000000] w fun e w' => e = .returned (.tuple #[.slice none 0 0, .int .u64 0]) ∧ w' = w := by
  go_enter Tryz.func75, Tryz.ntmps75
  go_wp2
  go_ret2
  exact ⟨rfl, rfl⟩
end Go.Proofs.YtbafddlkeocpeaaGreatDoor
