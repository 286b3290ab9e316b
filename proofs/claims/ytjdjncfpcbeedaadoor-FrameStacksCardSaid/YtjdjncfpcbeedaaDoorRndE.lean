/- light.Round at what is wrong. -/
import Derived.Test.YtjdjncfpcbeedaaDoorRnd
namespace Go.Proofs.YtjdjncfpcbeedaaDoor
open Go.RowKit

set_option maxHeartbeats 2000000 in
theorem round_err (ad : Nat → Addr) (W H X Y L inn out : Int) (f : Nat → Int) (a : Option Addr) (n cap : Nat) (w : World) (he : Errs w ad [1, 4]) (h : IRow w a n f) (hn : n ≤ 9223372036854775807) (g : ¬ picG W H n f) :
    Calls Tryd.prog 9 #[.agg #[.int .i64 W, .int .i64 H, .slice a n cap], .agg #[.int .i64 X, .int .i64 Y, .int .i64 L], .int .i64 inn, .int .i64 out] w fun e w' =>
      e = .returned (.tuple #[.int .i64 0, .int .i64 0, .int .i64 0, errV ad (picB W H)]) ∧ Below w.heap.size w w' := by
  have HV := Lib.hid (fun o1 o2 => validP_bad ad W H f a n cap ((w.alloc o1).alloc o2) (he.below (below2 o1 o2)) (h.below (below2 o1 o2)) hn g)
  clear he h g
  unfold errV at *
  generalize picB W H = pb at *
  go_enter Tryd.func9, Tryd.ntmps9
  go_wp2_with fail
  refine (HV.out _ _).mono ?_; rintro e wa ⟨rfl, hb1⟩
  have HB := Lib.hid (below_step (below2 _ _) hb1)
  clear hb1 HV
  go_wp2
  refine bodyPost_ret (v := .tuple #[.int .i64 0, .int .i64 0, .int .i64 0, .iface 225 (.pointer (some (ad pb)))]) ?_ rfl ?_
  · simp [results, Tryd.results9, go_sem]
  · exact ⟨rfl, HB.out⟩
/-- Are the numbers about a star such as are taken? -/
def rndOk (X Y inn out : Int) : Prop := 1 ≤ inn ∧ inn < out ∧ out ≤ 1048576 ∧ -268435456 ≤ X ∧ X ≤ 268435456 ∧ -268435456 ≤ Y ∧ Y ≤ 268435456
set_option maxHeartbeats 4000000 in
theorem round_shape (ad : Nat → Addr) (W H X Y L inn out : Int) (f : Nat → Int) (a : Option Addr) (n cap : Nat) (w : World) (he : Errs w ad [1, 4]) (h : IRow w a n f) (g : picG W H n f) (hno : ¬ rndOk X Y inn out) :
    Calls Tryd.prog 9 #[.agg #[.int .i64 W, .int .i64 H, .slice a n cap], .agg #[.int .i64 X, .int .i64 Y, .int .i64 L], .int .i64 inn, .int .i64 out] w fun e w' =>
      e = .returned (.tuple #[.int .i64 0, .int .i64 0, .int .i64 0, errV ad 4]) ∧ Below w.heap.size w w' := by
  have HV := Lib.hid (fun o1 o2 => validP_ok ad W H f a n cap ((w.alloc o1).alloc o2) (he.below (below2 o1 o2)) (h.below (below2 o1 o2)) g)
  have HE := Lib.hid he
  clear he h g
  unfold errV
  unfold rndOk at hno
  go_enter Tryd.func9, Tryd.ntmps9
  go_wp2_with fail
  refine (HV.out _ _).mono ?_; rintro e wa ⟨rfl, hb1⟩
  have s0 : wa.cell? ⟨w.heap.size + 1, 0, none⟩ = some (.int .i64 X) := by rw [hb1.cell (p := ⟨w.heap.size + 1, 0, none⟩) (by simp)]; simp
  have s1 : wa.cell? ⟨w.heap.size + 1, 1, none⟩ = some (.int .i64 Y) := by rw [hb1.cell (p := ⟨w.heap.size + 1, 1, none⟩) (by simp)]; simp
  have hbw := below_step (below2 _ _) hb1
  have e4 : wa.cell? ⟨0, 0, none⟩ = some (.iface 225 (.pointer (some (ad 4)))) := (HE.out.below hbw) 4 (by decide)
  have HB := Lib.hid hbw
  clear hb1 hbw HV HE
  by_cases c0 : inn < 1
  · have d0 : decide (inn < 1) = true := by simpa using c0
    clear hno
    go_wp2
    go_quiet (fail)
    go_wp2
    refine bodyPost_ret (v := .tuple #[.int .i64 0, .int .i64 0, .int .i64 0, .iface 225 (.pointer (some (ad 4)))]) ?_ rfl ?_
    · simp [results, Tryd.results9, go_sem]
    · exact ⟨rfl, below_drewN HB.out _⟩
  have d0 : decide (inn < 1) = false := by simp <;> omega
  by_cases c1 : out ≤ inn
  · have d1 : decide (out ≤ inn) = true := by simpa using c1
    clear hno
    go_wp2
    go_quiet (fail)
    go_wp2
    refine bodyPost_ret (v := .tuple #[.int .i64 0, .int .i64 0, .int .i64 0, .iface 225 (.pointer (some (ad 4)))]) ?_ rfl ?_
    · simp [results, Tryd.results9, go_sem]
    · exact ⟨rfl, below_drewN HB.out _⟩
  have d1 : decide (out ≤ inn) = false := by simp <;> omega
  by_cases c2 : 1048576 < out
  · have d2 : decide (1048576 < out) = true := by simpa using c2
    clear hno
    go_wp2
    go_quiet (fail)
    go_wp2
    refine bodyPost_ret (v := .tuple #[.int .i64 0, .int .i64 0, .int .i64 0, .iface 225 (.pointer (some (ad 4)))]) ?_ rfl ?_
    · simp [results, Tryd.results9, go_sem]
    · exact ⟨rfl, below_drewN HB.out _⟩
  have d2 : decide (1048576 < out) = false := by simp <;> omega
  by_cases c3 : 268435456 < X
  · have d3 : decide (268435456 < X) = true := by simpa using c3
    clear hno
    go_wp2
    go_quiet (fail)
    go_wp2
    refine bodyPost_ret (v := .tuple #[.int .i64 0, .int .i64 0, .int .i64 0, .iface 225 (.pointer (some (ad 4)))]) ?_ rfl ?_
    · simp [results, Tryd.results9, go_sem]
    · exact ⟨rfl, below_drewN HB.out _⟩
  have d3 : decide (268435456 < X) = false := by simp <;> omega
  by_cases c4 : X < -268435456
  · have d4 : decide (X < -268435456) = true := by simpa using c4
    clear hno
    go_wp2
    go_quiet (fail)
    go_wp2
    refine bodyPost_ret (v := .tuple #[.int .i64 0, .int .i64 0, .int .i64 0, .iface 225 (.pointer (some (ad 4)))]) ?_ rfl ?_
    · simp [results, Tryd.results9, go_sem]
    · exact ⟨rfl, below_drewN HB.out _⟩
  have d4 : decide (X < -268435456) = false := by simp <;> omega
  by_cases c5 : 268435456 < Y
  · have d5 : decide (268435456 < Y) = true := by simpa using c5
    clear hno
    go_wp2
    go_quiet (fail)
    go_wp2
    refine bodyPost_ret (v := .tuple #[.int .i64 0, .int .i64 0, .int .i64 0, .iface 225 (.pointer (some (ad 4)))]) ?_ rfl ?_
    · simp [results, Tryd.results9, go_sem]
    · exact ⟨rfl, below_drewN HB.out _⟩
  have d5 : decide (268435456 < Y) = false := by simp <;> omega
  by_cases c6 : Y < -268435456
  · have d6 : decide (Y < -268435456) = true := by simpa using c6
    clear hno
    go_wp2
    go_quiet (fail)
    go_wp2
    refine bodyPost_ret (v := .tuple #[.int .i64 0, .int .i64 0, .int .i64 0, .iface 225 (.pointer (some (ad 4)))]) ?_ rfl ?_
    · simp [results, Tryd.results9, go_sem]
    · exact ⟨rfl, below_drewN HB.out _⟩
  have d6 : decide (Y < -268435456) = false := by simp <;> omega
  exact absurd ⟨by omega, by omega, by omega, by omega, by omega, by omega, by omega⟩ hno
end Go.Proofs.YtjdjncfpcbeedaaDoor
