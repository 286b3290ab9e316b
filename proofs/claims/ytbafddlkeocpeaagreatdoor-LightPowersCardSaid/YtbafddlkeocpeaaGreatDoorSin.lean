/- What bits.Sin and bits.Cos compute, for every int. -/
import Derived.Test.YtbafddlkeocpeaaGreatDoorArc
import Derived.Test.YtbafddlkeocpeaaGreatDoorPoly
import Derived.Lib.Hide
import Derived.WalkLawsBesides
namespace Go.Proofs.YtbafddlkeocpeaaGreatDoor
open Go.RowKit Fl

@[go_sem] theorem run_store_float {P : Program} {w : World} {a : Addr} {m : Mode} (k : FloatKind) (b : Nat) : (store a (.float k b) m).run P w = stored P w a (.float k b) m := run_store P w a _ m rfl

@[go_sem] theorem unary_neg_float (k : FloatKind) (b : Nat) : Op.unary .neg (.float k b) = pure (.float k (Op.negFloat k b)) := rfl


theorem run_mul {x y : Nat} (hx : isNum x = true) (hy : isNum y = true) (w : World) : (binOp .mul 28 (.float .f64 x) (.float .f64 y)).run Tryz.prog w = .ok (.float .f64 (fmul x y)) w :=
  run_float_arith w .mul _ .f64 x y _ (mul_num hx hy)
theorem run_add {x y : Nat} (hx : isNum x = true) (hy : isNum y = true) (w : World) : (binOp .add 28 (.float .f64 x) (.float .f64 y)).run Tryz.prog w = .ok (.float .f64 (fadd x y)) w :=
  run_float_arith w .add _ .f64 x y _ (add_num hx hy)

theorem run_hor_mul {c : Nat → Nat} (hc : Halves c) {z : Nat} (hz : Sz (5/8) z) (j : Nat) (w : World) : (binOp .mul 28 (.float .f64 z) (.float .f64 (hor c z j))).run Tryz.prog w = .ok (.float .f64 (fmul z (hor c z j))) w :=
  run_mul hz.1 (hor_sz hc hz j).1.1 w
theorem run_hor_add {c : Nat → Nat} (hc : Halves c) {z : Nat} (hz : Sz (5/8) z) (j : Nat) (w : World) : (binOp .add 28 (.float .f64 (c (6 - j))) (.float .f64 (fmul z (hor c z j)))).run Tryz.prog w = .ok (.float .f64 (hor c z (j + 1))) w :=
  run_add (hc _).1 (hor_sz hc hz j).2.1 w

set_option maxHeartbeats 1000000 in
theorem cosine_any (z : Nat) (hz : Sz (5/8) z) (w : World) :
    Calls Tryz.prog 27 #[.float .f64 z] w fun e w' => e = .returned (.float .f64 (cosP z)) ∧ Below w.heap.size w w' := by
  have m0 := fun W => run_hor_mul (c := cosC) cos_halves hz 0 W
  have m1 := fun W => run_hor_mul (c := cosC) cos_halves hz 1 W
  have m2 := fun W => run_hor_mul (c := cosC) cos_halves hz 2 W
  have m3 := fun W => run_hor_mul (c := cosC) cos_halves hz 3 W
  have m4 := fun W => run_hor_mul (c := cosC) cos_halves hz 4 W
  have m5 := fun W => run_hor_mul (c := cosC) cos_halves hz 5 W
  have m6 := fun W => run_hor_mul (c := cosC) cos_halves hz 6 W
  have m7 := fun W => run_hor_mul (c := cosC) cos_halves hz 7 W
  have a0 := fun W => run_hor_add (c := cosC) cos_halves hz 0 W
  have a1 := fun W => run_hor_add (c := cosC) cos_halves hz 1 W
  have a2 := fun W => run_hor_add (c := cosC) cos_halves hz 2 W
  have a3 := fun W => run_hor_add (c := cosC) cos_halves hz 3 W
  have a4 := fun W => run_hor_add (c := cosC) cos_halves hz 4 W
  have a5 := fun W => run_hor_add (c := cosC) cos_halves hz 5 W
  have a6 := fun W => run_hor_add (c := cosC) cos_halves hz 6 W
  have a7 := fun W => run_add one_sz.1 (hor_sz cos_halves hz 7).2.1 W
  have h0 : hor cosC z 0 = 4407590220077447199 := rfl
  simp only [h0, one, cosC, Nat.zero_add, Nat.reduceAdd, Nat.reduceSub] at m0 a0 a1 a2 a3 a4 a5 a6 a7
  go_enter Tryz.func27, Tryz.ntmps27
  go_wp2
  refine wp_loop_rounds 8 ?_
  iterate 8 (rw [rounds_succ]; go_wp2)
  go_ret
  exact ⟨rfl, by go_grown⟩
set_option maxHeartbeats 1000000 in
theorem sine_any (x z : Nat) (hx : Sz 1 x) (hz : Sz (5/8) z) (w : World) :
    Calls Tryz.prog 28 #[.float .f64 x, .float .f64 z] w fun e w' => e = .returned (.float .f64 (sinP x z)) ∧ Below w.heap.size w w' := by
  have m0 := fun W => run_hor_mul (c := sinC) sin_halves hz 0 W
  have m1 := fun W => run_hor_mul (c := sinC) sin_halves hz 1 W
  have m2 := fun W => run_hor_mul (c := sinC) sin_halves hz 2 W
  have m3 := fun W => run_hor_mul (c := sinC) sin_halves hz 3 W
  have m4 := fun W => run_hor_mul (c := sinC) sin_halves hz 4 W
  have m5 := fun W => run_hor_mul (c := sinC) sin_halves hz 5 W
  have m6 := fun W => run_hor_mul (c := sinC) sin_halves hz 6 W
  have m7 := fun W => run_hor_mul (c := sinC) sin_halves hz 7 W
  have a0 := fun W => run_hor_add (c := sinC) sin_halves hz 0 W
  have a1 := fun W => run_hor_add (c := sinC) sin_halves hz 1 W
  have a2 := fun W => run_hor_add (c := sinC) sin_halves hz 2 W
  have a3 := fun W => run_hor_add (c := sinC) sin_halves hz 3 W
  have a4 := fun W => run_hor_add (c := sinC) sin_halves hz 4 W
  have a5 := fun W => run_hor_add (c := sinC) sin_halves hz 5 W
  have a6 := fun W => run_hor_add (c := sinC) sin_halves hz 6 W
  have a7 := fun W => run_add one_sz.1 (hor_sz sin_halves hz 7).2.1 W
  have t0 := fun W => run_mul hx.1 (top_sz sin_halves hz).1 W
  have h0 : hor sinC z 0 = 4389130328383466826 := rfl
  simp only [h0, one, sinC, Nat.zero_add, Nat.reduceAdd, Nat.reduceSub] at m0 a0 a1 a2 a3 a4 a5 a6 a7 t0
  go_enter Tryz.func28, Tryz.ntmps28
  go_wp2
  refine wp_loop_rounds 8 ?_
  iterate 8 (rw [rounds_succ]; go_wp2)
  go_ret
  exact ⟨rfl, by go_grown⟩

theorem normT_any (a : Int) (w : World) (ha : In64 a) :
    Calls Tryz.prog 23 #[.int .i64 a] w fun e w' => e = .returned (.int .i64 (nrmT a)) ∧ w = w' := norm_any a w ha
theorem normOfT_any (a : Int) (w : World) (ha : In64 a) :
    Calls Tryz.prog 31 #[.int .i64 a] w fun e w' => e = .returned (.int .i64 (nrmT a)) ∧ w = w' := normOf_any a w ha

theorem parts_any (a : Int) (ha : In64 a) (w : World) :
    Calls Tryz.prog 26 #[.int .i64 a] w fun e w' => e = .returned (.tuple #[.int .i64 (qq a % 4), .float .f64 (xx a), .float .f64 (zz a)]) ∧ w = w' := by
  have b1 : 0 ≤ nrmT a ∧ nrmT a < 1296000000000 := by unfold nrmT; omega
  have b2 := qq_bd a
  have b3 := rr_bd a
  have hq : (nrmT a + 162000000000) / 324000000000 = qq a := rfl
  have hr : nrmT a - qq a * 324000000000 = rr a := rfl
  have m1 := fun W => run_mul (rr_num a) rad_sz.1 W
  have m2 := fun W => run_mul (xx_sz a).1 (xx_sz a).1 W
  have e1 : fmul (floatOfInt .f64 (rr a)) rad = xx a := rfl
  have e2 : fmul (xx a) (xx a) = zz a := rfl
  rw [e1] at m1
  rw [e2] at m2
  clear e1 e2
  unfold rad at m1
  go_enter Tryz.func26, Tryz.ntmps26
  go_wp2_with fail
  refine (normT_any _ _ ha).mono ?_; rintro e w' ⟨rfl, rfl⟩
  go_wp2
  go_ret3
  exact ⟨rfl, rfl⟩

set_option maxHeartbeats 400000 in
theorem sin_any (a : Int) (ha : In64 a) (w : World) :
    Calls Tryz.prog 14 #[.int .i64 a] w fun e w' => e = .returned (.float .f64 (sinV a)) ∧ Below w.heap.size w w' := by
  have hx : Sz 1 (xx a) := (xx_sz a).mono (by decide +kernel)
  have hz := zz_sz a
  have hq := qq_bd a
  have hm : 0 ≤ qq a % 4 ∧ qq a % 4 < 4 := by omega
  have P1 := parts_any a ha
  by_cases c0 : qq a % 4 = 0
  · have e : sinV a = sinP (xx a) (zz a) := by unfold sinV; rw [if_pos c0]
    rw [e]; clear e
    rw [c0] at P1; clear hm c0
    have P := Lib.hid P1; clear P1
    go_enter Tryz.func14, Tryz.ntmps14
    go_wp2_with fail
    refine (P.out _).mono ?_; rintro e w' ⟨rfl, rfl⟩
    go_wp2_with fail
    refine (sine_any _ _ hx hz _).mono ?_; rintro e w' ⟨rfl, hb⟩
    go_wp2
    go_ret
    exact ⟨rfl, hb⟩
  · by_cases c1 : qq a % 4 = 1
    · have e : sinV a = cosP (zz a) := by unfold sinV; rw [if_neg c0, if_pos c1]
      rw [e]; clear e
      rw [c1] at P1; clear hm c0 c1
      have P := Lib.hid P1; clear P1
      go_enter Tryz.func14, Tryz.ntmps14
      go_wp2_with fail
      refine (P.out _).mono ?_; rintro e w' ⟨rfl, rfl⟩
      go_wp2_with fail
      refine (cosine_any _ hz _).mono ?_; rintro e w' ⟨rfl, hb⟩
      go_wp2
      go_ret
      exact ⟨rfl, hb⟩
    · by_cases c2 : qq a % 4 = 2
      · have e : sinV a = Op.negFloat .f64 (sinP (xx a) (zz a)) := by unfold sinV; rw [if_neg c0, if_neg c1, if_pos c2]
        rw [e]; clear e
        rw [c2] at P1; clear hm c0 c1 c2
        have P := Lib.hid P1; clear P1
        go_enter Tryz.func14, Tryz.ntmps14
        go_wp2_with fail
        refine (P.out _).mono ?_; rintro e w' ⟨rfl, rfl⟩
        go_wp2_with fail
        refine (sine_any _ _ hx hz _).mono ?_; rintro e w' ⟨rfl, hb⟩
        go_wp2
        go_ret
        exact ⟨rfl, hb⟩
      · have e : sinV a = Op.negFloat .f64 (cosP (zz a)) := by unfold sinV; rw [if_neg c0, if_neg c1, if_neg c2]
        rw [e]; clear e
        have c3 : qq a % 4 = 3 := by omega
        rw [c3] at P1; clear hm c0 c1 c2 c3
        have P := Lib.hid P1; clear P1
        go_enter Tryz.func14, Tryz.ntmps14
        go_wp2_with fail
        refine (P.out _).mono ?_; rintro e w' ⟨rfl, rfl⟩
        go_wp2_with fail
        refine (cosine_any _ hz _).mono ?_; rintro e w' ⟨rfl, hb⟩
        go_wp2
        go_ret
        exact ⟨rfl, hb⟩

set_option maxHeartbeats 400000 in
theorem cos_any (a : Int) (ha : In64 a) (w : World) :
    Calls Tryz.prog 13 #[.int .i64 a] w fun e w' => e = .returned (.float .f64 (cosV a)) ∧ Below w.heap.size w w' := by
  have hx : Sz 1 (xx a) := (xx_sz a).mono (by decide +kernel)
  have hz := zz_sz a
  have hq := qq_bd a
  have hm : 0 ≤ qq a % 4 ∧ qq a % 4 < 4 := by omega
  have P1 := parts_any a ha
  by_cases c0 : qq a % 4 = 0
  · have e : cosV a = cosP (zz a) := by unfold cosV; rw [if_pos c0]
    rw [e]; clear e
    rw [c0] at P1; clear hm c0
    have P := Lib.hid P1; clear P1
    go_enter Tryz.func13, Tryz.ntmps13
    go_wp2_with fail
    refine (P.out _).mono ?_; rintro e w' ⟨rfl, rfl⟩
    go_wp2_with fail
    refine (cosine_any _ hz _).mono ?_; rintro e w' ⟨rfl, hb⟩
    go_wp2
    go_ret
    exact ⟨rfl, hb⟩
  · by_cases c1 : qq a % 4 = 1
    · have e : cosV a = Op.negFloat .f64 (sinP (xx a) (zz a)) := by unfold cosV; rw [if_neg c0, if_pos c1]
      rw [e]; clear e
      rw [c1] at P1; clear hm c0 c1
      have P := Lib.hid P1; clear P1
      go_enter Tryz.func13, Tryz.ntmps13
      go_wp2_with fail
      refine (P.out _).mono ?_; rintro e w' ⟨rfl, rfl⟩
      go_wp2_with fail
      refine (sine_any _ _ hx hz _).mono ?_; rintro e w' ⟨rfl, hb⟩
      go_wp2
      go_ret
      exact ⟨rfl, hb⟩
    · by_cases c2 : qq a % 4 = 2
      · have e : cosV a = Op.negFloat .f64 (cosP (zz a)) := by unfold cosV; rw [if_neg c0, if_neg c1, if_pos c2]
        rw [e]; clear e
        rw [c2] at P1; clear hm c0 c1 c2
        have P := Lib.hid P1; clear P1
        go_enter Tryz.func13, Tryz.ntmps13
        go_wp2_with fail
        refine (P.out _).mono ?_; rintro e w' ⟨rfl, rfl⟩
        go_wp2_with fail
        refine (cosine_any _ hz _).mono ?_; rintro e w' ⟨rfl, hb⟩
        go_wp2
        go_ret
        exact ⟨rfl, hb⟩
      · have e : cosV a = sinP (xx a) (zz a) := by unfold cosV; rw [if_neg c0, if_neg c1, if_neg c2]
        rw [e]; clear e
        have c3 : qq a % 4 = 3 := by omega
        rw [c3] at P1; clear hm c0 c1 c2 c3
        have P := Lib.hid P1; clear P1
        go_enter Tryz.func13, Tryz.ntmps13
        go_wp2_with fail
        refine (P.out _).mono ?_; rintro e w' ⟨rfl, rfl⟩
        go_wp2_with fail
        refine (sine_any _ _ hx hz _).mono ?_; rintro e w' ⟨rfl, hb⟩
        go_wp2
        go_ret
        exact ⟨rfl, hb⟩
end Go.Proofs.YtbafddlkeocpeaaGreatDoor
