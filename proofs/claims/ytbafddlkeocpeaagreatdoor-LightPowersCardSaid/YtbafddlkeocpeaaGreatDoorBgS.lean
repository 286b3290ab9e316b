/- A turn less a number: cmp, sub and Add, as Mod comes to them. -/
import Derived.Test.YtbafddlkeocpeaaGreatDoorBgA
import Derived.Deep.CutBlock
import Derived.Deep.DeepCutAuto
namespace Go.Proofs.YtbafddlkeocpeaaGreatDoor
open Go.RowKit

theorem cmp_lt (g gt cg r : Nat) (hr : r < 1296000000000) (w : World) (h1 : w.cell? ⟨g, 0, none⟩ = some (.int .u64 (r : Int))) (h2 : w.cell? ⟨gt, 0, none⟩ = some (.int .u64 1296000000000)) :
    Calls Tryz.prog 57 #[.slice (some ⟨g, 0, none⟩) 1 cg, .slice (some ⟨gt, 0, none⟩) 1 1] w fun e w' => e = .returned (.int .i64 (-1)) ∧ ∃ n, w' = w.drewN n := by
  have hd : (r : Int) < 1296000000000 := by omega
  have h1' := h1
  have h2' := h2
  go_enter Tryz.func57, Tryz.ntmps57
  go_wp2
  refine wp_loop_rounds 1 ?_
  rw [rounds_succ]
  go_wp2
  go_quiet (fail)
  go_wp2
  go_quiet (fail)
  go_wp2
  go_ret
  exact ⟨rfl, _, World.drewN_drewN _ _ _⟩
theorem subRow_1 (g gt cg r : Nat) (hr : r < 1296000000000) (w : World) (h1 : w.cell? ⟨g, 0, none⟩ = some (.int .u64 (r : Int))) (h2 : w.cell? ⟨gt, 0, none⟩ = some (.int .u64 1296000000000)) (hf : w.frozen? ⟨g, 0, none⟩ = false) :
    Calls Tryz.prog 34 #[.slice (some ⟨g, 0, none⟩) 1 cg, .slice (some ⟨gt, 0, none⟩) 1 1, .slice (some ⟨g, 0, none⟩) 1 cg] w fun e w' => e = .returned (.int .u64 0) ∧ ∃ n, w' = (w.drewN n).setCell ⟨g, 0, none⟩ (.int .u64 ((1296000000000 - r : Nat) : Int)) := by
  have HS : Hid (∀ W, Calls Tryz.prog 83 #[.int .u64 1296000000000, .int .u64 (r : Int), .int .u64 0] W fun e w' => e = .returned (.tuple #[.int .u64 ((1296000000000 - r : Nat) : Int), .int .u64 0]) ∧ w' = W) := Lib.hid (fun W => by
    have h := bits_sub 1296000000000 r 0 (by omega) W
    rw [show (1296000000000 + 18446744073709551616 - r - 0) % 18446744073709551616 = 1296000000000 - r by omega, if_neg (by omega)] at h
    exact h)
  generalize 1296000000000 - r = d at *
  go_enter Tryz.func34, Tryz.ntmps34
  go_wp2
  refine wp_loop_rounds 2 ?_
  rw [rounds_succ]
  go_wp2
  go_quiet (first | (go_at_call 83; exact Calls.quiet_of_same (HS.out _)))
  go_wp2
  rw [rounds_succ]
  go_wp2
  go_ret
  exact ⟨rfl, _, rfl⟩
theorem natSub_1 (g gt r : Nat) (hr : r < 1296000000000) (w : World) (h1 : w.cell? ⟨g, 0, none⟩ = some (.int .u64 (r : Int))) (h2 : w.cell? ⟨gt, 0, none⟩ = some (.int .u64 1296000000000)) (hf : w.frozen? ⟨g, 0, none⟩ = false) :
    Calls Tryz.prog 58 #[.slice (some ⟨g, 0, none⟩) 1 6, .slice (some ⟨gt, 0, none⟩) 1 1, .slice (some ⟨g, 0, none⟩) 1 6] w fun e w' => e = .returned (.slice (some ⟨g, 0, none⟩) 1 6) ∧ ∃ n, w' = (w.drewN n).setCell ⟨g, 0, none⟩ (.int .u64 ((1296000000000 - r : Nat) : Int)) := by
  have HM := Lib.hid (fun W => make_old g 1 W)
  have HS := Lib.hid (subRow_1 g gt 6 r hr w.drew h1 h2 hf)
  have hd0 : 1296000000000 - r ≠ 0 := by omega
  generalize 1296000000000 - r = d at *
  have HN : Hid (∀ n, WR ((w.drewN n).setCell ⟨g, 0, none⟩ (.int .u64 (d : Int))) g 0 1 (fun _ => d)) := Lib.hid (fun n j hj => by
    obtain rfl : j = 0 := by omega
    exact World.cell?_setCell_same _ _ _ (u := .int .u64 (r : Int)) h1)
  clear h1 h2 hf
  go_enter Tryz.func58, Tryz.ntmps58
  go_wp2_with fail
  refine (HM.out _).mono ?_; rintro e w' ⟨rfl, rfl⟩
  go_wp2_with fail
  go_region_with (go_at_call 34; refine HS.out.mono ?_; rintro e w1 ⟨rfl, n, rfl⟩)
  all_goals
    have hW := HN.out (1 + n)
    have HW := Lib.hid hW
    clear hW
    go_wp2_with fail
    refine (norm_any' g 0 1 6 (by omega) (by omega) _ _ HW.out).mono ?_; rintro e w3 ⟨k, rfl, ⟨hk, hz, hn⟩, rfl⟩
    obtain rfl : k = 1 := by
      rcases Nat.lt_or_ge k 1 with h | h
      · exact absurd (hz 0 (by omega) (by omega)) hd0
      · omega
    clear hz hn
    go_wp2
    go_ret
    exact ⟨rfl, _, rfl⟩
set_option maxHeartbeats 2000000 in
set_option maxRecDepth 20000 in
/-- The rest less than nought: a turn is added to it. -/
theorem add_turn (B p pt g gt r : Nat) (hr : r < 1296000000000) (w : World) (cs : Array Value) (hcs : cs[0]? = some (.int .u64 (r : Int)))
    (op : w.heap[p]? = some (.cells #[.bool true, .slice (some ⟨g, 0, none⟩) 1 6] 52)) (ot : w.heap[pt]? = some (.cells #[.bool false, .slice (some ⟨gt, 0, none⟩) 1 1] 52))
    (og : w.heap[g]? = some (.cells cs 71)) (ogt : w.heap[gt]? = some (.cells #[.int .u64 1296000000000] 71)) (_n1 : p ≠ pt) (n2 : g ≠ p) (hBp : B ≤ p) (hBg : B ≤ g) :
    Calls Tryz.prog 44 #[.pointer (some ⟨p, 0, none⟩), .pointer (some ⟨p, 0, none⟩), .pointer (some ⟨pt, 0, none⟩)] w fun e w' =>
      e = .returned (.pointer (some ⟨p, 0, none⟩)) ∧ Below B w w' ∧ w'.heap[p]? = some (.cells #[.bool false, .slice (some ⟨g, 0, none⟩) 1 6] 52) ∧ w'.cell? ⟨g, 0, none⟩ = some (.int .u64 ((1296000000000 - r : Nat) : Int)) := by
  have c0 := heap_cell op 0 rfl
  have c1 := heap_cell op 1 rfl
  have c2 := heap_cell ot 0 rfl
  have c3 := heap_cell ot 1 rfl
  have c4 := heap_cell og 0 hcs
  have c5 := heap_cell ogt 0 rfl
  have hcell : ∀ (W : World) (a : Addr), W.heap = w.heap → W.cell? a = w.cell? a := fun W a h => World.cell?_of_block (w := w) (by rw [h])
  have HC : Hid (∀ (W : World) n, W.heap = w.heap → Calls Tryz.prog 57 #[.slice (some ⟨g, 0, none⟩) 1 6, .slice (some ⟨gt, 0, none⟩) 1 1] (W.drewN n) fun e w' => e = .returned (.int .i64 (-1)) ∧ ∃ m, w' = W.drewN m) := Lib.hid (fun W n hW => (cmp_lt g gt 6 r hr (W.drewN n) ((hcell (W.drewN n) _ hW).trans c4) ((hcell (W.drewN n) _ hW).trans c5)).mono (fun e w' ⟨h1, m, h2⟩ => ⟨h1, n + m, by rw [h2, World.drewN_drewN]⟩))
  have HC2 : Hid (∀ a n, Calls Tryz.prog 57 #[.slice (some ⟨g, 0, none⟩) 1 6, .slice (some ⟨gt, 0, none⟩) 1 1] (w.drewN (a + n)) fun e w' => e = .returned (.int .i64 (-1)) ∧ ∃ m, w' = w.drewN (a + m)) := Lib.hid (fun a n => (cmp_lt g gt 6 r hr (w.drewN (a + n)) c4 c5).mono (fun e w' ⟨h1, m, h2⟩ => ⟨h1, n + m, by rw [h2, World.drewN_drewN, Nat.add_assoc]⟩))
  have HS := Lib.hid (fun n => natSub_1 g gt r hr (w.drewN n) c4 c5 (heap_frozen og 0))
  have lp := heap_lt op
  have HF : Hid (∀ n v, ((w.drewN n).setCell ⟨g, 0, none⟩ v).cell? ⟨p, 1, none⟩ = some (.slice (some ⟨g, 0, none⟩) 1 6) ∧ ((w.drewN n).setCell ⟨g, 0, none⟩ v).frozen? ⟨p, 1, none⟩ = false) := Lib.hid (fun n v => ⟨(World.cell?_setCell_far _ ⟨g, 0, none⟩ ⟨p, 1, none⟩ _ n2).trans c1, (World.frozen?_setCell _ _ _ _).trans (heap_frozen op 1)⟩)
  have OP := Lib.hid op
  have C4 := Lib.hid c4
  clear op ot og ogt c4 c5 hcs hcell
  generalize 1296000000000 - r = d at *
  go_enter Tryz.func44, Tryz.ntmps44
  go_wp2
  go_quiet (fail)
  go_wp2
  go_quiet (first | (go_at_call 57; first | exact HC.out _ _ rfl | exact HC2.out _ _))
  go_upto_region 7 with (fail)
  go_cut [] (fun wx => ∃ n, wx = ((w.drewN n).setCell ⟨g, 0, none⟩ (.int .u64 (d : Int))).setCell ⟨p, 1, none⟩ (.slice (some ⟨g, 0, none⟩) 1 6))
  case first =>
    have q1 := fun n v => (HF.out n v).1
    have q2 := fun n v => (HF.out n v).2
    clear HC HC2
    go_region_with (go_at_call 58; refine (HS.out _).mono ?_; rintro e w1 ⟨rfl, n, rfl⟩)
    all_goals
      go_wp2_with fail
      go_meet
      exact ⟨_, rfl⟩
  case rest =>
    rename World => wo
    obtain ⟨n, rfl⟩ := hcut
    have op2 : (((w.drewN n).setCell ⟨g, 0, none⟩ (.int .u64 (d : Int))).setCell ⟨p, 1, none⟩ (.slice (some ⟨g, 0, none⟩) 1 6)).heap[p]? = some (.cells #[.bool true, .slice (some ⟨g, 0, none⟩) 1 6] 52) := heap_set ((heap_set_far (w := w.drewN n) (Ne.symm n2) 0 _).trans OP.out) 1 _
    have cg2 : (((w.drewN n).setCell ⟨g, 0, none⟩ (.int .u64 (d : Int))).setCell ⟨p, 1, none⟩ (.slice (some ⟨g, 0, none⟩) 1 6)).cell? ⟨g, 0, none⟩ = some (.int .u64 (d : Int)) := (World.cell?_setCell_far _ ⟨p, 1, none⟩ ⟨g, 0, none⟩ _ (Ne.symm n2)).trans (World.cell?_setCell_same _ _ _ (u := .int .u64 (r : Int)) C4.out)
    have hB2 : Below B w (((w.drewN n).setCell ⟨g, 0, none⟩ (.int .u64 (d : Int))).setCell ⟨p, 1, none⟩ (.slice (some ⟨g, 0, none⟩) 1 6)) := ((below_drewN (Below.refl B w) n).setCell hBg _).setCell hBp _
    generalize ((w.drewN n).setCell ⟨g, 0, none⟩ (.int .u64 (d : Int))).setCell ⟨p, 1, none⟩ (.slice (some ⟨g, 0, none⟩) 1 6) = W at *
    have e0 := heap_cell op2 0 rfl
    have e1 := heap_cell op2 1 rfl
    have f0 := heap_frozen op2 0
    have HW : Hid (∀ v, (W.setCell ⟨p, 0, none⟩ v).heap[p]? = some (.cells #[v, .slice (some ⟨g, 0, none⟩) 1 6] 52) ∧ (W.setCell ⟨p, 0, none⟩ v).cell? ⟨g, 0, none⟩ = some (.int .u64 (d : Int)) ∧ Below B w (W.setCell ⟨p, 0, none⟩ v)) := Lib.hid (fun v => ⟨heap_set op2 0 v, (World.cell?_setCell_far _ ⟨p, 0, none⟩ ⟨g, 0, none⟩ _ (Ne.symm n2)).trans cg2, (hB2.setCell hBp _)⟩)
    clear op2 cg2 hB2 HC HC2 HS HF C4 OP c0 c1 c2 c3
    go_wp2
    go_ret
    exact ⟨rfl, (HW.out _).2.2, (HW.out _).1, (HW.out _).2.1⟩
end Go.Proofs.YtbafddlkeocpeaaGreatDoor
