/- spots.Ground: what it answers of what is wrong; tiles. -/
import Derived.Test.YthbekddpnkammaaGreatDoorGrdP
import Derived.Test.YthbekddpnkammaaGreatDoorOwn
import Derived.Test.YthbekddpnkammaaGreatDoorMed
namespace Go.Proofs.YthbekddpnkammaaGreatDoor
open Go.RowKit

theorem tiles_any (n T : Nat) (hT : 1 ≤ T) (hn : n ≤ 65536) (hT2 : T ≤ 65536) (w : World) :
    Calls Tryz.prog 79 #[.int .i64 n, .int .i64 T] w fun e w' => e = .returned (.int .i64 (tilesN n T : Nat)) ∧ w' = w := by
  have hT0 : ((T : Int) == 0) = false := by simp; omega
  have e1 : (n : Int) + (T : Int) - 1 = ((n + T - 1 : Nat) : Int) := by omega
  have ew0 : IntKind.i64.wrap ((n + T - 1 : Nat) : Int) = ((n + T - 1 : Nat) : Int) := IntWalk.i64_in _ (by omega)
  have e2 : ((n + T - 1 : Nat) : Int) / (T : Int) = ((tilesN n T : Nat) : Int) := by unfold tilesN; rw [Int.natCast_ediv]
  have hle : (n + T - 1) / T ≤ n + T - 1 := Nat.div_le_self _ _
  have hle2 : tilesN n T ≤ 140000 := by unfold tilesN; omega
  generalize n + T - 1 = K at *
  generalize tilesN n T = R at *
  go_enter Tryz.func79, Tryz.ntmps79
  go_wp2
  go_ret
  exact ⟨rfl, rfl⟩
set_option maxHeartbeats 1000000 in
theorem ground_err (ad : Nat → Addr) (W H T : Int) (f : Nat → Int) (a : Option Addr) (n cap : Nat) (w : World) (he : Errs w ad [1, 4]) (h : IRow w a n f) (hn : n ≤ 9223372036854775807) (g : ¬ picG W H n f) :
    Calls Tryz.prog 78 #[.agg #[.int .i64 W, .int .i64 H, .slice a n cap], .int .i64 T] w fun e w' => e = .returned (.tuple #[.slice none 0 0, errV ad (picB W H)]) ∧ Below w.heap.size w w' := by
  have hb0 : ∀ o, Below w.heap.size w (w.alloc o) := fun o => (Below.refl _ _).alloc (Nat.le_refl _) _
  have HV := Lib.hid (fun o => validP_bad ad W H f a n cap (w.alloc o) (he.below (hb0 o)) (h.below (hb0 o)) hn g)
  have HB0 := Lib.hid hb0
  clear he h g hb0
  unfold errV at *
  generalize picB W H = pb at *
  go_enter Tryz.func78, Tryz.ntmps78
  go_wp2_with fail
  refine (HV.out _).mono ?_; rintro e w1 ⟨rfl, hb1⟩
  have HB := Lib.hid (below_step (HB0.out _) hb1)
  clear hb1 HV
  go_wp2
  go_ret2
  exact ⟨rfl, HB.out⟩
set_option maxHeartbeats 1000000 in
theorem ground_shape (ad : Nat → Addr) (W H T : Int) (f : Nat → Int) (a : Option Addr) (n cap : Nat) (w : World) (he : Errs w ad [1, 4]) (h : IRow w a n f) (g : picG W H n f) (hT : T < 1 ∨ 256 < T) :
    Calls Tryz.prog 78 #[.agg #[.int .i64 W, .int .i64 H, .slice a n cap], .int .i64 T] w fun e w' => e = .returned (.tuple #[.slice none 0 0, errV ad 4]) ∧ Below w.heap.size w w' := by
  have hb0 : ∀ o, Below w.heap.size w (w.alloc o) := fun o => (Below.refl _ _).alloc (Nat.le_refl _) _
  have HV := Lib.hid (fun o => validP_ok ad W H f a n cap (w.alloc o) (he.below (hb0 o)) (h.below (hb0 o)) g)
  have HB0 := Lib.hid hb0
  have HE := Lib.hid he
  clear he h g hb0
  unfold errV
  go_enter Tryz.func78, Tryz.ntmps78
  go_wp2_with fail
  refine (HV.out _).mono ?_; rintro e w1 ⟨rfl, hb1⟩
  have hbw := below_step (HB0.out _) hb1
  have e4 : w1.cell? ⟨0, 0, none⟩ = some (.iface 230 (.pointer (some (ad 4)))) := (HE.out.below hbw) 4 (by decide)
  have HB := Lib.hid hbw
  clear hb1 HV hbw
  by_cases c : T < 1
  · have d : decide (T < 1) = true := by simpa using c
    clear hT
    go_wp2
    go_quiet (fail)
    go_wp2
    go_ret2
    exact ⟨rfl, below_drewN HB.out _⟩
  · have d : decide (T < 1) = false := by simpa using c
    have d2 : decide (256 < T) = true := by simp; omega
    clear hT
    go_wp2
    go_quiet (fail)
    go_wp2
    go_ret2
    exact ⟨rfl, below_drewN HB.out _⟩
end Go.Proofs.YthbekddpnkammaaGreatDoor
