/- The law LightPowers: where it looks no further, and where there is an error. -/
import Derived.Test.YtbafddlkeocpeaaGreatDoorPwW
import Derived.Test.YtbafddlkeocpeaaGreatDoorPwE
import Derived.Test.YtbafddlkeocpeaaGreatDoorPwR
import Derived.Test.YtbafddlkeocpeaaGreatDoorCoded4
namespace Go.Proofs.YtbafddlkeocpeaaGreatDoor
open Go.RowKit Ieee

theorem pow_nine : powO (fun _ => 0) (fun _ => 4613937818241073152) 1 0 = some 4621256167635550208 := by decide +kernel
theorem nine_eq : FloatKind.f64.format.order 4621256167635550208 4621256167635550208 = some .eq := by decide +kernel
theorem sft_at {x : Nat → Nat} {F : Int → Option Nat} (h : ∀ k : Nat, k < 1 → Sft (F (0 + k * 0)) (x k)) {v : Nat} (ho : F 0 = some v) : x 0 = v := by
  have h1 := h 0 Nat.one_pos
  rw [show (0 : Int) + ((0 : Nat) : Int) * 0 = 0 by decide, ho] at h1
  exact h1
/-- The first call: one number at one time. -/
theorem pre_any (b1 b2 : Nat) (w : World) (h1 : w.cell? ⟨b1, 0, none⟩ = some (.int .i64 0)) (h2 : w.cell? ⟨b2, 0, none⟩ = some (.float .f64 4613937818241073152)) :
    Calls Tryz.prog 4 #[.slice (some ⟨b1, 0, none⟩) 1 1, .slice (some ⟨b2, 0, none⟩) 1 1, .int .i64 0, .int .i64 0, .int .i64 1] w fun e w' =>
      ∃ b o c, e = .returned (.tuple #[.slice (some ⟨b, o, none⟩) 1 c, .nilIface]) ∧ w'.cell? ⟨b, o, none⟩ = some (.float .f64 4621256167635550208) ∧ Below w.heap.size w w' := by
  have h := power_ok (fun _ => 0) (fun _ => 4613937818241073152) 1 1 0 0 (some ⟨b1, 0, none⟩) (some ⟨b2, 0, none⟩) 1 1 (by decide) (by decide) (by decide) (by decide) (by unfold Far; omega) (by unfold Far; omega) (fun _ _ => by unfold Far; omega) w
    (Or.inr ⟨b1, 0, rfl, fun j hj => by obtain rfl : j = 0 := by omega
                                        exact h1⟩) (Or.inr ⟨b2, 0, rfl, fun j hj => by obtain rfl : j = 0 := by omega
                                                                                       exact h2⟩)
  refine h.mono ?_
  rintro e w' ⟨a, c, x, rfl, hx, hp, hb⟩
  obtain ⟨b, o, rfl, _, hc⟩ := hx.at (j := 0) (by decide)
  have e1 : x 0 = 4621256167635550208 := sft_at (F := powO (fun _ => 0) (fun _ => 4613937818241073152) 1) hp pow_nine
  rw [e1] at hc
  exact ⟨b, o, c, rfl, hc, hb⟩

theorem pre_cells (w : World) : ((w.alloc (.cells #[.int .i64 0] 3)).alloc (.cells #[.float .f64 4613937818241073152] 28)).cell? ⟨w.heap.size, 0, none⟩ = some (.int .i64 0) ∧ ((w.alloc (.cells #[.int .i64 0] 3)).alloc (.cells #[.float .f64 4613937818241073152] 28)).cell? ⟨w.heap.size + 1, 0, none⟩ = some (.float .f64 4613937818241073152) := by
  constructor
  · rw [(Below.alloc (Below.refl (w.alloc (.cells #[.int .i64 0] 3)).heap.size _) (Nat.le_refl _) _).cell (p := ⟨w.heap.size, 0, none⟩) (by simp)]
    exact heap_cell (heap_new w _) 0 rfl
  · have h := heap_cell (heap_new (w.alloc (.cells #[.int .i64 0] 3)) (.cells #[.float .f64 4613937818241073152] 28)) 0 (v := .float .f64 4613937818241073152) rfl
    have hs : (w.alloc (.cells #[.int .i64 0] 3)).heap.size = w.heap.size + 1 := by simp
    rw [hs] at h
    exact h
theorem pre_below (w : World) : Below w.heap.size w ((w.alloc (.cells #[.int .i64 0] 3)).alloc (.cells #[.float .f64 4613937818241073152] 28)) := ((Below.refl _ w).alloc (Nat.le_refl _) _).alloc (by simp) _
/-- Nothing is looked at. -/
def Skips (n m : Nat) (many : Int) : Prop := (60 < n ∧ n ≤ 4000) ∨ (60 < m ∧ m ≤ 4000) ∨ (40 < many ∧ many ≤ 4000) ∨ 4005 < n ∨ 4005 < m
set_option maxHeartbeats 2000000 in
set_option maxRecDepth 20000 in
theorem skip_0 (n m : Nat) (many step frm : Int) (at' al : Option Addr) (ct cl : Nat) (k0 : (60 : Int) < (n : Int)) (k1 : (n : Int) ≤ 4000) (w : World) :
    Calls Tryz.prog 3 #[.slice at' n ct, .slice al m cl, .int .i64 step, .int .i64 frm, .int .i64 many] w fun e w' => e = .returned (.bool true) ∧ Below w.heap.size w w' := by
  have h9 := nine_eq
  have HP := Lib.hid (fun b1 b2 W h1 h2 => pre_any b1 b2 W h1 h2)
  have HK := Lib.hid (pre_cells w)
  have HB0 := Lib.hid (pre_below w)
  go_enter Tryz.func3, Tryz.ntmps3
  go_wp2_with fail
  refine (HP.out _ _ _ HK.out.1 HK.out.2).mono ?_; rintro e w1 ⟨b, o, c, rfl, hc, hb⟩
  have HB1 := Lib.hid (HB0.out.trans (hb.mono HB0.out.size))
  clear hb HP HK HB0
  go_wp2
  go_ret
  exact ⟨rfl, HB1.out⟩
set_option maxHeartbeats 2000000 in
set_option maxRecDepth 20000 in
theorem skip_1 (n m : Nat) (many step frm : Int) (at' al : Option Addr) (ct cl : Nat) (k0 : (n : Int) ≤ 60) (k1 : (60 : Int) < (m : Int)) (k2 : (m : Int) ≤ 4000) (w : World) :
    Calls Tryz.prog 3 #[.slice at' n ct, .slice al m cl, .int .i64 step, .int .i64 frm, .int .i64 many] w fun e w' => e = .returned (.bool true) ∧ Below w.heap.size w w' := by
  have h9 := nine_eq
  have HP := Lib.hid (fun b1 b2 W h1 h2 => pre_any b1 b2 W h1 h2)
  have HK := Lib.hid (pre_cells w)
  have HB0 := Lib.hid (pre_below w)
  go_enter Tryz.func3, Tryz.ntmps3
  go_wp2_with fail
  refine (HP.out _ _ _ HK.out.1 HK.out.2).mono ?_; rintro e w1 ⟨b, o, c, rfl, hc, hb⟩
  have HB1 := Lib.hid (HB0.out.trans (hb.mono HB0.out.size))
  clear hb HP HK HB0
  go_wp2
  go_ret
  exact ⟨rfl, HB1.out⟩
set_option maxHeartbeats 2000000 in
set_option maxRecDepth 20000 in
theorem skip_2 (n m : Nat) (many step frm : Int) (at' al : Option Addr) (ct cl : Nat) (k0 : (60 : Int) < (n : Int)) (k1 : (4000 : Int) < (n : Int)) (k2 : (60 : Int) < (m : Int)) (k3 : (m : Int) ≤ 4000) (w : World) :
    Calls Tryz.prog 3 #[.slice at' n ct, .slice al m cl, .int .i64 step, .int .i64 frm, .int .i64 many] w fun e w' => e = .returned (.bool true) ∧ Below w.heap.size w w' := by
  have h9 := nine_eq
  have HP := Lib.hid (fun b1 b2 W h1 h2 => pre_any b1 b2 W h1 h2)
  have HK := Lib.hid (pre_cells w)
  have HB0 := Lib.hid (pre_below w)
  go_enter Tryz.func3, Tryz.ntmps3
  go_wp2_with fail
  refine (HP.out _ _ _ HK.out.1 HK.out.2).mono ?_; rintro e w1 ⟨b, o, c, rfl, hc, hb⟩
  have HB1 := Lib.hid (HB0.out.trans (hb.mono HB0.out.size))
  clear hb HP HK HB0
  go_wp2
  go_ret
  exact ⟨rfl, HB1.out⟩
set_option maxHeartbeats 2000000 in
set_option maxRecDepth 20000 in
theorem skip_3 (n m : Nat) (many step frm : Int) (at' al : Option Addr) (ct cl : Nat) (k0 : (n : Int) ≤ 60) (k1 : (m : Int) ≤ 60) (k2 : 40 < many) (k3 : many ≤ 4000) (w : World) :
    Calls Tryz.prog 3 #[.slice at' n ct, .slice al m cl, .int .i64 step, .int .i64 frm, .int .i64 many] w fun e w' => e = .returned (.bool true) ∧ Below w.heap.size w w' := by
  have h9 := nine_eq
  have HP := Lib.hid (fun b1 b2 W h1 h2 => pre_any b1 b2 W h1 h2)
  have HK := Lib.hid (pre_cells w)
  have HB0 := Lib.hid (pre_below w)
  go_enter Tryz.func3, Tryz.ntmps3
  go_wp2_with fail
  refine (HP.out _ _ _ HK.out.1 HK.out.2).mono ?_; rintro e w1 ⟨b, o, c, rfl, hc, hb⟩
  have HB1 := Lib.hid (HB0.out.trans (hb.mono HB0.out.size))
  clear hb HP HK HB0
  go_wp2
  go_ret
  exact ⟨rfl, HB1.out⟩
set_option maxHeartbeats 2000000 in
set_option maxRecDepth 20000 in
theorem skip_4 (n m : Nat) (many step frm : Int) (at' al : Option Addr) (ct cl : Nat) (k0 : (n : Int) ≤ 60) (k1 : (60 : Int) < (m : Int)) (k2 : (4000 : Int) < (m : Int)) (k3 : 40 < many) (k4 : many ≤ 4000) (w : World) :
    Calls Tryz.prog 3 #[.slice at' n ct, .slice al m cl, .int .i64 step, .int .i64 frm, .int .i64 many] w fun e w' => e = .returned (.bool true) ∧ Below w.heap.size w w' := by
  have h9 := nine_eq
  have HP := Lib.hid (fun b1 b2 W h1 h2 => pre_any b1 b2 W h1 h2)
  have HK := Lib.hid (pre_cells w)
  have HB0 := Lib.hid (pre_below w)
  go_enter Tryz.func3, Tryz.ntmps3
  go_wp2_with fail
  refine (HP.out _ _ _ HK.out.1 HK.out.2).mono ?_; rintro e w1 ⟨b, o, c, rfl, hc, hb⟩
  have HB1 := Lib.hid (HB0.out.trans (hb.mono HB0.out.size))
  clear hb HP HK HB0
  go_wp2
  go_ret
  exact ⟨rfl, HB1.out⟩
set_option maxHeartbeats 2000000 in
set_option maxRecDepth 20000 in
theorem skip_5 (n m : Nat) (many step frm : Int) (at' al : Option Addr) (ct cl : Nat) (k0 : (60 : Int) < (n : Int)) (k1 : (4000 : Int) < (n : Int)) (k2 : (m : Int) ≤ 60) (k3 : 40 < many) (k4 : many ≤ 4000) (w : World) :
    Calls Tryz.prog 3 #[.slice at' n ct, .slice al m cl, .int .i64 step, .int .i64 frm, .int .i64 many] w fun e w' => e = .returned (.bool true) ∧ Below w.heap.size w w' := by
  have h9 := nine_eq
  have HP := Lib.hid (fun b1 b2 W h1 h2 => pre_any b1 b2 W h1 h2)
  have HK := Lib.hid (pre_cells w)
  have HB0 := Lib.hid (pre_below w)
  go_enter Tryz.func3, Tryz.ntmps3
  go_wp2_with fail
  refine (HP.out _ _ _ HK.out.1 HK.out.2).mono ?_; rintro e w1 ⟨b, o, c, rfl, hc, hb⟩
  have HB1 := Lib.hid (HB0.out.trans (hb.mono HB0.out.size))
  clear hb HP HK HB0
  go_wp2
  go_ret
  exact ⟨rfl, HB1.out⟩
set_option maxHeartbeats 2000000 in
set_option maxRecDepth 20000 in
theorem skip_6 (n m : Nat) (many step frm : Int) (at' al : Option Addr) (ct cl : Nat) (k0 : (60 : Int) < (n : Int)) (k1 : (4000 : Int) < (n : Int)) (k2 : (60 : Int) < (m : Int)) (k3 : (4000 : Int) < (m : Int)) (k4 : 40 < many) (k5 : many ≤ 4000) (w : World) :
    Calls Tryz.prog 3 #[.slice at' n ct, .slice al m cl, .int .i64 step, .int .i64 frm, .int .i64 many] w fun e w' => e = .returned (.bool true) ∧ Below w.heap.size w w' := by
  have h9 := nine_eq
  have HP := Lib.hid (fun b1 b2 W h1 h2 => pre_any b1 b2 W h1 h2)
  have HK := Lib.hid (pre_cells w)
  have HB0 := Lib.hid (pre_below w)
  go_enter Tryz.func3, Tryz.ntmps3
  go_wp2_with fail
  refine (HP.out _ _ _ HK.out.1 HK.out.2).mono ?_; rintro e w1 ⟨b, o, c, rfl, hc, hb⟩
  have HB1 := Lib.hid (HB0.out.trans (hb.mono HB0.out.size))
  clear hb HP HK HB0
  go_wp2
  go_ret
  exact ⟨rfl, HB1.out⟩
set_option maxHeartbeats 2000000 in
set_option maxRecDepth 20000 in
theorem skip_7 (n m : Nat) (many step frm : Int) (at' al : Option Addr) (ct cl : Nat) (k0 : (60 : Int) < (n : Int)) (k1 : (4000 : Int) < (n : Int)) (k2 : (m : Int) ≤ 60) (k3 : many ≤ 40) (k4 : (4005 : Int) < (n : Int)) (w : World) :
    Calls Tryz.prog 3 #[.slice at' n ct, .slice al m cl, .int .i64 step, .int .i64 frm, .int .i64 many] w fun e w' => e = .returned (.bool true) ∧ Below w.heap.size w w' := by
  have h9 := nine_eq
  have HP := Lib.hid (fun b1 b2 W h1 h2 => pre_any b1 b2 W h1 h2)
  have HK := Lib.hid (pre_cells w)
  have HB0 := Lib.hid (pre_below w)
  go_enter Tryz.func3, Tryz.ntmps3
  go_wp2_with fail
  refine (HP.out _ _ _ HK.out.1 HK.out.2).mono ?_; rintro e w1 ⟨b, o, c, rfl, hc, hb⟩
  have HB1 := Lib.hid (HB0.out.trans (hb.mono HB0.out.size))
  clear hb HP HK HB0
  go_wp2
  go_ret
  exact ⟨rfl, HB1.out⟩
set_option maxHeartbeats 2000000 in
set_option maxRecDepth 20000 in
theorem skip_8 (n m : Nat) (many step frm : Int) (at' al : Option Addr) (ct cl : Nat) (k0 : (60 : Int) < (n : Int)) (k1 : (4000 : Int) < (n : Int)) (k2 : (m : Int) ≤ 60) (k3 : 40 < many) (k4 : 4000 < many) (k5 : (4005 : Int) < (n : Int)) (w : World) :
    Calls Tryz.prog 3 #[.slice at' n ct, .slice al m cl, .int .i64 step, .int .i64 frm, .int .i64 many] w fun e w' => e = .returned (.bool true) ∧ Below w.heap.size w w' := by
  have h9 := nine_eq
  have HP := Lib.hid (fun b1 b2 W h1 h2 => pre_any b1 b2 W h1 h2)
  have HK := Lib.hid (pre_cells w)
  have HB0 := Lib.hid (pre_below w)
  go_enter Tryz.func3, Tryz.ntmps3
  go_wp2_with fail
  refine (HP.out _ _ _ HK.out.1 HK.out.2).mono ?_; rintro e w1 ⟨b, o, c, rfl, hc, hb⟩
  have HB1 := Lib.hid (HB0.out.trans (hb.mono HB0.out.size))
  clear hb HP HK HB0
  go_wp2
  go_ret
  exact ⟨rfl, HB1.out⟩
set_option maxHeartbeats 2000000 in
set_option maxRecDepth 20000 in
theorem skip_9 (n m : Nat) (many step frm : Int) (at' al : Option Addr) (ct cl : Nat) (k0 : (60 : Int) < (n : Int)) (k1 : (4000 : Int) < (n : Int)) (k2 : (60 : Int) < (m : Int)) (k3 : (4000 : Int) < (m : Int)) (k4 : many ≤ 40) (k5 : (4005 : Int) < (n : Int)) (w : World) :
    Calls Tryz.prog 3 #[.slice at' n ct, .slice al m cl, .int .i64 step, .int .i64 frm, .int .i64 many] w fun e w' => e = .returned (.bool true) ∧ Below w.heap.size w w' := by
  have h9 := nine_eq
  have HP := Lib.hid (fun b1 b2 W h1 h2 => pre_any b1 b2 W h1 h2)
  have HK := Lib.hid (pre_cells w)
  have HB0 := Lib.hid (pre_below w)
  go_enter Tryz.func3, Tryz.ntmps3
  go_wp2_with fail
  refine (HP.out _ _ _ HK.out.1 HK.out.2).mono ?_; rintro e w1 ⟨b, o, c, rfl, hc, hb⟩
  have HB1 := Lib.hid (HB0.out.trans (hb.mono HB0.out.size))
  clear hb HP HK HB0
  go_wp2
  go_ret
  exact ⟨rfl, HB1.out⟩
set_option maxHeartbeats 2000000 in
set_option maxRecDepth 20000 in
theorem skip_10 (n m : Nat) (many step frm : Int) (at' al : Option Addr) (ct cl : Nat) (k0 : (60 : Int) < (n : Int)) (k1 : (4000 : Int) < (n : Int)) (k2 : (60 : Int) < (m : Int)) (k3 : (4000 : Int) < (m : Int)) (k4 : 40 < many) (k5 : 4000 < many) (k6 : (4005 : Int) < (n : Int)) (w : World) :
    Calls Tryz.prog 3 #[.slice at' n ct, .slice al m cl, .int .i64 step, .int .i64 frm, .int .i64 many] w fun e w' => e = .returned (.bool true) ∧ Below w.heap.size w w' := by
  have h9 := nine_eq
  have HP := Lib.hid (fun b1 b2 W h1 h2 => pre_any b1 b2 W h1 h2)
  have HK := Lib.hid (pre_cells w)
  have HB0 := Lib.hid (pre_below w)
  go_enter Tryz.func3, Tryz.ntmps3
  go_wp2_with fail
  refine (HP.out _ _ _ HK.out.1 HK.out.2).mono ?_; rintro e w1 ⟨b, o, c, rfl, hc, hb⟩
  have HB1 := Lib.hid (HB0.out.trans (hb.mono HB0.out.size))
  clear hb HP HK HB0
  go_wp2
  go_ret
  exact ⟨rfl, HB1.out⟩
set_option maxHeartbeats 2000000 in
set_option maxRecDepth 20000 in
theorem skip_11 (n m : Nat) (many step frm : Int) (at' al : Option Addr) (ct cl : Nat) (k0 : (n : Int) ≤ 60) (k1 : (60 : Int) < (m : Int)) (k2 : (4000 : Int) < (m : Int)) (k3 : many ≤ 40) (k4 : (n : Int) ≤ 4005) (k5 : (4005 : Int) < (m : Int)) (w : World) :
    Calls Tryz.prog 3 #[.slice at' n ct, .slice al m cl, .int .i64 step, .int .i64 frm, .int .i64 many] w fun e w' => e = .returned (.bool true) ∧ Below w.heap.size w w' := by
  have h9 := nine_eq
  have HP := Lib.hid (fun b1 b2 W h1 h2 => pre_any b1 b2 W h1 h2)
  have HK := Lib.hid (pre_cells w)
  have HB0 := Lib.hid (pre_below w)
  go_enter Tryz.func3, Tryz.ntmps3
  go_wp2_with fail
  refine (HP.out _ _ _ HK.out.1 HK.out.2).mono ?_; rintro e w1 ⟨b, o, c, rfl, hc, hb⟩
  have HB1 := Lib.hid (HB0.out.trans (hb.mono HB0.out.size))
  clear hb HP HK HB0
  go_wp2
  go_ret
  exact ⟨rfl, HB1.out⟩
set_option maxHeartbeats 2000000 in
set_option maxRecDepth 20000 in
theorem skip_12 (n m : Nat) (many step frm : Int) (at' al : Option Addr) (ct cl : Nat) (k0 : (n : Int) ≤ 60) (k1 : (60 : Int) < (m : Int)) (k2 : (4000 : Int) < (m : Int)) (k3 : 40 < many) (k4 : 4000 < many) (k5 : (n : Int) ≤ 4005) (k6 : (4005 : Int) < (m : Int)) (w : World) :
    Calls Tryz.prog 3 #[.slice at' n ct, .slice al m cl, .int .i64 step, .int .i64 frm, .int .i64 many] w fun e w' => e = .returned (.bool true) ∧ Below w.heap.size w w' := by
  have h9 := nine_eq
  have HP := Lib.hid (fun b1 b2 W h1 h2 => pre_any b1 b2 W h1 h2)
  have HK := Lib.hid (pre_cells w)
  have HB0 := Lib.hid (pre_below w)
  go_enter Tryz.func3, Tryz.ntmps3
  go_wp2_with fail
  refine (HP.out _ _ _ HK.out.1 HK.out.2).mono ?_; rintro e w1 ⟨b, o, c, rfl, hc, hb⟩
  have HB1 := Lib.hid (HB0.out.trans (hb.mono HB0.out.size))
  clear hb HP HK HB0
  go_wp2
  go_ret
  exact ⟨rfl, HB1.out⟩
set_option maxHeartbeats 2000000 in
set_option maxRecDepth 20000 in
theorem skip_13 (n m : Nat) (many step frm : Int) (at' al : Option Addr) (ct cl : Nat) (k0 : (60 : Int) < (n : Int)) (k1 : (4000 : Int) < (n : Int)) (k2 : (60 : Int) < (m : Int)) (k3 : (4000 : Int) < (m : Int)) (k4 : many ≤ 40) (k5 : (n : Int) ≤ 4005) (k6 : (4005 : Int) < (m : Int)) (w : World) :
    Calls Tryz.prog 3 #[.slice at' n ct, .slice al m cl, .int .i64 step, .int .i64 frm, .int .i64 many] w fun e w' => e = .returned (.bool true) ∧ Below w.heap.size w w' := by
  have h9 := nine_eq
  have HP := Lib.hid (fun b1 b2 W h1 h2 => pre_any b1 b2 W h1 h2)
  have HK := Lib.hid (pre_cells w)
  have HB0 := Lib.hid (pre_below w)
  go_enter Tryz.func3, Tryz.ntmps3
  go_wp2_with fail
  refine (HP.out _ _ _ HK.out.1 HK.out.2).mono ?_; rintro e w1 ⟨b, o, c, rfl, hc, hb⟩
  have HB1 := Lib.hid (HB0.out.trans (hb.mono HB0.out.size))
  clear hb HP HK HB0
  go_wp2
  go_ret
  exact ⟨rfl, HB1.out⟩
set_option maxHeartbeats 2000000 in
set_option maxRecDepth 20000 in
theorem skip_14 (n m : Nat) (many step frm : Int) (at' al : Option Addr) (ct cl : Nat) (k0 : (60 : Int) < (n : Int)) (k1 : (4000 : Int) < (n : Int)) (k2 : (60 : Int) < (m : Int)) (k3 : (4000 : Int) < (m : Int)) (k4 : 40 < many) (k5 : 4000 < many) (k6 : (n : Int) ≤ 4005) (k7 : (4005 : Int) < (m : Int)) (w : World) :
    Calls Tryz.prog 3 #[.slice at' n ct, .slice al m cl, .int .i64 step, .int .i64 frm, .int .i64 many] w fun e w' => e = .returned (.bool true) ∧ Below w.heap.size w w' := by
  have h9 := nine_eq
  have HP := Lib.hid (fun b1 b2 W h1 h2 => pre_any b1 b2 W h1 h2)
  have HK := Lib.hid (pre_cells w)
  have HB0 := Lib.hid (pre_below w)
  go_enter Tryz.func3, Tryz.ntmps3
  go_wp2_with fail
  refine (HP.out _ _ _ HK.out.1 HK.out.2).mono ?_; rintro e w1 ⟨b, o, c, rfl, hc, hb⟩
  have HB1 := Lib.hid (HB0.out.trans (hb.mono HB0.out.size))
  clear hb HP HK HB0
  go_wp2
  go_ret
  exact ⟨rfl, HB1.out⟩
theorem law_skips (n m : Nat) (many step frm : Int) (at' al : Option Addr) (ct cl : Nat) (hs : Skips n m many) (w : World) :
    Calls Tryz.prog 3 #[.slice at' n ct, .slice al m cl, .int .i64 step, .int .i64 frm, .int .i64 many] w fun e w' => e = .returned (.bool true) ∧ Below w.heap.size w w' := by
  unfold Skips at hs
  by_cases a1 : 60 < n ∧ n ≤ 4000
  · exact skip_0 n m many step frm at' al ct cl (by omega) (by omega) w
  by_cases a2 : 60 < m ∧ m ≤ 4000
  · by_cases b : n ≤ 60
    · exact skip_1 n m many step frm at' al ct cl (by omega) (by omega) (by omega) w
    · exact skip_2 n m many step frm at' al ct cl (by omega) (by omega) (by omega) (by omega) w
  by_cases a3 : 40 < many ∧ many ≤ 4000
  · by_cases b : n ≤ 60
    · by_cases b2 : m ≤ 60
      · exact skip_3 n m many step frm at' al ct cl (by omega) (by omega) (by omega) (by omega) w
      · exact skip_4 n m many step frm at' al ct cl (by omega) (by omega) (by omega) (by omega) (by omega) w
    · by_cases b2 : m ≤ 60
      · exact skip_5 n m many step frm at' al ct cl (by omega) (by omega) (by omega) (by omega) (by omega) w
      · exact skip_6 n m many step frm at' al ct cl (by omega) (by omega) (by omega) (by omega) (by omega) (by omega) w
  by_cases a4 : 4005 < n
  · by_cases b : m ≤ 60
    · by_cases b2 : many ≤ 40
      · exact skip_7 n m many step frm at' al ct cl (by omega) (by omega) (by omega) (by omega) (by omega) w
      · exact skip_8 n m many step frm at' al ct cl (by omega) (by omega) (by omega) (by omega) (by omega) (by omega) w
    · by_cases b2 : many ≤ 40
      · exact skip_9 n m many step frm at' al ct cl (by omega) (by omega) (by omega) (by omega) (by omega) (by omega) w
      · exact skip_10 n m many step frm at' al ct cl (by omega) (by omega) (by omega) (by omega) (by omega) (by omega) (by omega) w
  · by_cases b : n ≤ 60
    · by_cases b2 : many ≤ 40
      · exact skip_11 n m many step frm at' al ct cl (by omega) (by omega) (by omega) (by omega) (by omega) (by omega) w
      · exact skip_12 n m many step frm at' al ct cl (by omega) (by omega) (by omega) (by omega) (by omega) (by omega) (by omega) w
    · by_cases b2 : many ≤ 40
      · exact skip_13 n m many step frm at' al ct cl (by omega) (by omega) (by omega) (by omega) (by omega) (by omega) (by omega) w
      · exact skip_14 n m many step frm at' al ct cl (by omega) (by omega) (by omega) (by omega) (by omega) (by omega) (by omega) (by omega) w
end Go.Proofs.YtbafddlkeocpeaaGreatDoor
