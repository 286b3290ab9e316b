/- RoundOf of package meridianref4: its walk. -/
import Derived.Test.YtjdjncfpcbeedaaDoorRndE
import Derived.Test.YtjdjncfpcbeedaaDoorPicE
import Derived.Deep.RegionHeldLaw
import Derived.Deep.AppendLies
namespace Go.Proofs.YtjdjncfpcbeedaaDoor
open Go.RowKit

set_option maxHeartbeats 1000000 in
theorem fromMiddle_any (x y X Y L : Int) (x0 : 0 ≤ x) (x1 : x ≤ 65536) (y0 : 0 ≤ y) (y1 : y ≤ 65536) (X0 : -268435456 ≤ X) (X1 : X ≤ 268435456) (Y0 : -268435456 ≤ Y) (Y1 : Y ≤ 268435456) (w : World) :
    Calls Tryd.prog 39 #[.int .i64 x, .int .i64 y, .agg #[.int .i64 X, .int .i64 Y, .int .i64 L]] w fun e w' => e = .returned (.int .i64 (midF X Y x y)) ∧ Below w.heap.size w w' := by
  have ha := sq_bd30 (A := 1024 * x + 512 - X) (by omega) (by omega)
  have hb := sq_bd30 (A := 1024 * y + 512 - Y) (by omega) (by omega)
  have hm : midF X Y x y = (1024 * x + 512 - X) * (1024 * x + 512 - X) + (1024 * y + 512 - Y) * (1024 * y + 512 - Y) := rfl
  rw [hm]
  clear hm
  go_enter Tryd.func39, Tryd.ntmps39
  go_wp2
  go_ret
  exact ⟨rfl, by go_grown⟩
theorem farR_any (x : Int) (w : World) :
    Calls Tryd.prog 38 #[.int .i64 x] w fun e w' => e = .returned (.bool (decide (268435456 < x) || decide (x < -268435456))) ∧ w = w' := by
  by_cases h : 268435456 < x
  · have d : decide (268435456 < x) = true := by simpa using h
    go_enter Tryd.func38, Tryd.ntmps38
    go_wp2
    go_ret
    exact ⟨by simp [h], rfl⟩
  · have d : decide (268435456 < x) = false := by simpa using h
    go_enter Tryd.func38, Tryd.ntmps38
    go_wp2
    go_ret
    exact ⟨by simp [d], rfl⟩
theorem roundOf_err (W H X Y L inn out : Int) (f : Nat → Int) (b o : Nat) (a : Option Addr) (n cap : Nat) (w : World) (hp : PicAt w b o W H a n cap f) (hn : n ≤ 9223372036854775807) (g : ¬ picG W H n f) :
    Calls Tryd.prog 11 #[.pointer (some ⟨b, o, none⟩), .agg #[.int .i64 X, .int .i64 Y, .int .i64 L], .int .i64 inn, .int .i64 out] w fun e w' =>
      e = .returned (.tuple #[.int .i64 0, .int .i64 0, .int .i64 0, .int .i64 (picB W H + 1 : Nat)]) ∧ Below w.heap.size w w' := by
  have hb0 : ∀ o', Below w.heap.size w (w.alloc o') := fun o' => (Below.refl _ _).alloc (Nat.le_refl _) _
  have HV := Lib.hid (fun o' => picE_bad b o W H f a n cap (w.alloc o') (hp.below (hb0 o')) hn g)
  have HB0 := Lib.hid hb0
  clear hp g hb0
  generalize picB W H = pb at *
  have hpb : (0 : Int) < ((pb + 1 : Nat) : Int) := by omega
  generalize ((pb + 1 : Nat) : Int) = pe at *
  go_enter Tryd.func11, Tryd.ntmps11
  go_wp2_with fail
  refine (HV.out _).mono ?_; rintro e wa ⟨rfl, hb1⟩
  have HB := Lib.hid (below_step (HB0.out _) hb1)
  clear hb1 HV
  go_wp2
  refine bodyPost_ret (v := .tuple #[.int .i64 0, .int .i64 0, .int .i64 0, .int .i64 pe]) ?_ rfl ?_
  · simp [results, Tryd.results11, go_sem]
  · exact ⟨rfl, HB.out⟩
set_option maxHeartbeats 4000000 in
theorem roundOf_shape (W H X Y L inn out : Int) (f : Nat → Int) (b o : Nat) (a : Option Addr) (n cap : Nat) (w : World) (hp : PicAt w b o W H a n cap f) (g : picG W H n f) (hno : ¬ rndOk X Y inn out) :
    Calls Tryd.prog 11 #[.pointer (some ⟨b, o, none⟩), .agg #[.int .i64 X, .int .i64 Y, .int .i64 L], .int .i64 inn, .int .i64 out] w fun e w' =>
      e = .returned (.tuple #[.int .i64 0, .int .i64 0, .int .i64 0, .int .i64 5]) ∧ Below w.heap.size w w' := by
  have hb0 : ∀ o', Below w.heap.size w (w.alloc o') := fun o' => (Below.refl _ _).alloc (Nat.le_refl _) _
  have HV := Lib.hid (fun o' => picE_ok b o W H f a n cap (w.alloc o') (hp.below (hb0 o')) g)
  have HB0 := Lib.hid hb0
  have HFX := Lib.hid (fun W2 => farR_any X W2)
  have HFY := Lib.hid (fun W2 => farR_any Y W2)
  clear hp g hb0
  unfold rndOk at hno
  go_enter Tryd.func11, Tryd.ntmps11
  go_wp2_with fail
  refine (HV.out _).mono ?_; rintro e wa ⟨rfl, hb1⟩
  have s0 : wa.cell? ⟨w.heap.size, 0, none⟩ = some (.int .i64 X) := by rw [hb1.cell (p := ⟨w.heap.size, 0, none⟩) (by simp)]; simp
  have s1 : wa.cell? ⟨w.heap.size, 1, none⟩ = some (.int .i64 Y) := by rw [hb1.cell (p := ⟨w.heap.size, 1, none⟩) (by simp)]; simp
  have HB := Lib.hid (below_step (HB0.out _) hb1)
  clear hb1 HV
  go_wp2_with fail
  refine (HFX.out _).mono ?_; rintro e w2 ⟨rfl, rfl⟩
  go_wp2_with fail
  refine (HFY.out _).mono ?_; rintro e w2 ⟨rfl, rfl⟩
  clear HFX HFY
  have hbad : inn < 1 ∨ out ≤ inn ∨ 1048576 < out ∨ (decide (268435456 < X) || decide (X < -268435456)) = true ∨ (decide (268435456 < Y) || decide (Y < -268435456)) = true := by
    simp only [Bool.or_eq_true, decide_eq_true_eq]
    omega
  clear hno
  generalize (decide (268435456 < X) || decide (X < -268435456)) = fx at *
  generalize (decide (268435456 < Y) || decide (Y < -268435456)) = fy at *
  by_cases c0 : inn < 1
  · have d0 : decide (inn < 1) = true := by simpa using c0
    clear hbad
    go_wp2
    refine bodyPost_ret (v := .tuple #[.int .i64 0, .int .i64 0, .int .i64 0, .int .i64 5]) ?_ rfl ?_
    · simp [results, Tryd.results11, go_sem]
    · exact ⟨rfl, HB.out⟩
  have d0 : decide (inn < 1) = false := by simpa using c0
  by_cases c1 : out ≤ inn
  · have d1 : decide (out ≤ inn) = true := by simpa using c1
    clear hbad
    go_wp2
    refine bodyPost_ret (v := .tuple #[.int .i64 0, .int .i64 0, .int .i64 0, .int .i64 5]) ?_ rfl ?_
    · simp [results, Tryd.results11, go_sem]
    · exact ⟨rfl, HB.out⟩
  have d1 : decide (out ≤ inn) = false := by simpa using c1
  by_cases c2 : 1048576 < out
  · have d2 : decide (1048576 < out) = true := by simpa using c2
    clear hbad
    go_wp2
    refine bodyPost_ret (v := .tuple #[.int .i64 0, .int .i64 0, .int .i64 0, .int .i64 5]) ?_ rfl ?_
    · simp [results, Tryd.results11, go_sem]
    · exact ⟨rfl, HB.out⟩
  have d2 : decide (1048576 < out) = false := by simpa using c2
  cases fx with
  | true =>
    clear hbad
    go_wp2
    refine bodyPost_ret (v := .tuple #[.int .i64 0, .int .i64 0, .int .i64 0, .int .i64 5]) ?_ rfl ?_
    · simp [results, Tryd.results11, go_sem]
    · exact ⟨rfl, HB.out⟩
  | false =>
    cases fy with
    | true =>
      clear hbad
      go_wp2
      refine bodyPost_ret (v := .tuple #[.int .i64 0, .int .i64 0, .int .i64 0, .int .i64 5]) ?_ rfl ?_
      · simp [results, Tryd.results11, go_sem]
      · exact ⟨rfl, HB.out⟩
    | false =>
      rcases hbad with h | h | h | h | h
      · exact absurd h c0
      · exact absurd h c1
      · exact absurd h c2
      · cases h
      · cases h
end Go.Proofs.YtjdjncfpcbeedaaDoor
