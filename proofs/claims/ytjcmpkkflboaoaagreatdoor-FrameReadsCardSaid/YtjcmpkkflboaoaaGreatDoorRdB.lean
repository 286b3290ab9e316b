/- frame.Read at too many bytes; frame.Parts. -/
import Derived.Test.YtjcmpkkflboaoaaGreatDoorRdJ
import Derived.Test.YtjcmpkkflboaoaaGreatDoorApp
namespace Go.Proofs.YtjcmpkkflboaoaaGreatDoor
open Go.RowKit

set_option maxRecDepth 20000 in
set_option maxHeartbeats 1000000 in
theorem read_big (ad : Nat → Addr) (a : Option Addr) (L cap : Nat) (w : World) (he : Errs w ad [1]) (hl : 400000 < L) (hl2 : L ≤ 9223372036854775807) :
    Calls Tryz.prog 10 #[.slice a L cap] w fun e w' => e = .returned (.tuple #[.agg #[.int .i64 0, .int .i64 0, .slice none 0 0], .slice none 0 0, errV ad 1]) ∧ Below w.heap.size w w' := by
  have hd : decide ((400000 : Int) < (L : Int)) = true := decide_eq_true (by omega)
  have HB0 := Lib.hid ((Below.refl w.heap.size w).alloc (Nat.le_refl _) (.cells #[.int .i64 0, .int .i64 0, .slice none 0 0] 33))
  have HE := Lib.hid (fun W' (hb : Below w.heap.size w W') => (he.below hb) 1 (by simp))
  have h1 : w.cell? ⟨0, 0, none⟩ = some (errV ad 1) := he 1 (by simp)
  have hg := cell_lt h1
  have hne : ¬ 0 = w.heap.size := by omega
  have hne2 : ¬ w.heap.size = 0 := by omega
  clear he h1 hg
  go_enter Tryz.func10, Tryz.ntmps10
  go_wp2
  have c0 : (w.alloc (.cells #[.int .i64 0, .int .i64 0, .slice none 0 0] 33)).cell? ⟨w.heap.size, 0, none⟩ = some (.int .i64 0) := by simp
  have c1 : (w.alloc (.cells #[.int .i64 0, .int .i64 0, .slice none 0 0] 33)).cell? ⟨w.heap.size, 1, none⟩ = some (.int .i64 0) := by simp
  have c2 : (w.alloc (.cells #[.int .i64 0, .int .i64 0, .slice none 0 0] 33)).cell? ⟨w.heap.size, 2, none⟩ = some (.slice none 0 0) := by simp
  have f0 : (w.alloc (.cells #[.int .i64 0, .int .i64 0, .slice none 0 0] 33)).frozen? ⟨w.heap.size, 0, none⟩ = false := by simp
  have f1 : (w.alloc (.cells #[.int .i64 0, .int .i64 0, .slice none 0 0] 33)).frozen? ⟨w.heap.size, 1, none⟩ = false := by simp
  have f2 : (w.alloc (.cells #[.int .i64 0, .int .i64 0, .slice none 0 0] 33)).frozen? ⟨w.heap.size, 2, none⟩ = false := by simp
  generalize w.alloc (.cells #[.int .i64 0, .int .i64 0, .slice none 0 0] 33) = W1 at *
  have e1 : W1.cell? ⟨0, 0, none⟩ = some (errV ad 1) := HE.out W1 HB0.out
  have HBs := Lib.hid (((HB0.out.drew.setCell (p := ⟨w.heap.size, 0, none⟩) (Nat.le_refl _) (.int .i64 0)).setCell (p := ⟨w.heap.size, 1, none⟩) (Nat.le_refl _) (.int .i64 0)).setCell (p := ⟨w.heap.size, 2, none⟩) (Nat.le_refl _) (.slice none 0 0))
  obtain ⟨ev1, hev⟩ : ∃ v, errV ad 1 = v := ⟨_, rfl⟩
  have HEv := Lib.hid hev
  rw [hev] at e1
  clear HE hev
  go_step3
  go_wp2
  go_region_held3 (fun w' => w'.cell? ⟨0, 0, none⟩ = some ev1) (go_keep) (fail)
  all_goals
    go_wp2
    rw [Exit.noGoto_ret]
    refine bodyPost_ret (v := .tuple #[.agg #[.int .i64 0, .int .i64 0, .slice none 0 0], .slice none 0 0, ev1]) ?_ rfl ?_
    · simp [results, Tryz.results10, go_sem, c0, c1, c2]
    · exact ⟨by rw [HEv.out], HBs.out⟩
end Go.Proofs.YtjcmpkkflboaoaaGreatDoor
