/- spots.Wide and meridianref4.ReachOf at what is wrong. -/
import Derived.Test.YthbekddpnkammaaGreatDoorDel
import Derived.Test.YthbekddpnkammaaGreatDoorOwn
import Derived.Test.YthbekddpnkammaaGreatDoorPicE
import Derived.Test.YthbekddpnkammaaGreatDoorRndP
import Derived.BigQuiet
import Derived.Deep.CutRange
import Derived.Deep.DeepCutAuto
namespace Go.Proofs.YthbekddpnkammaaGreatDoor
open Go.RowKit

/-- Are the numbers about a spot such as are taken? -/
def widOk (W H : Int) (s : Sp) (share : Int) : Prop := 1 ≤ share ∧ share ≤ 100 ∧ 0 ≤ s.L ∧ s.L ≤ s.R ∧ s.R < W ∧ 0 ≤ s.T ∧ s.T ≤ s.Lo ∧ s.Lo < H ∧ -268435456 ≤ s.X ∧ s.X ≤ 268435456 ∧ -268435456 ≤ s.Y ∧ s.Y ≤ 268435456
theorem farW_any (x : Int) (w : World) :
    Calls Tryz.prog 22 #[.int .i64 x] w fun e w' => e = .returned (.bool (decide (268435456 < x) || decide (x < -268435456))) ∧ w = w' := by
  by_cases h : 268435456 < x
  · have d : decide (268435456 < x) = true := by simpa using h
    go_enter Tryz.func22, Tryz.ntmps22
    go_wp2
    go_ret
    exact ⟨by simp [h], rfl⟩
  · have d : decide (268435456 < x) = false := by simpa using h
    go_enter Tryz.func22, Tryz.ntmps22
    go_wp2
    go_ret
    exact ⟨by simp [d], rfl⟩
theorem farR_any (x : Int) (w : World) :
    Calls Tryz.prog 27 #[.int .i64 x] w fun e w' => e = .returned (.bool (decide (268435456 < x) || decide (x < -268435456))) ∧ w = w' := by
  by_cases h : 268435456 < x
  · have d : decide (268435456 < x) = true := by simpa using h
    go_enter Tryz.func27, Tryz.ntmps27
    go_wp2
    go_ret
    exact ⟨by simp [h], rfl⟩
  · have d : decide (268435456 < x) = false := by simpa using h
    go_enter Tryz.func27, Tryz.ntmps27
    go_wp2
    go_ret
    exact ⟨by simp [d], rfl⟩
/-- The cells of the two boxes, behind the first call. -/
theorem wide_boxes {w wa : World} {W H : Int} {a : Option Addr} {n cap : Nat} {sL sT sR sO sP sI sX sY sS : Int} {t u : TypeId} (hb : Below ((w.alloc (.cells #[.int .i64 W, .int .i64 H, .slice a n cap] t)).alloc (.cells #[.int .i64 sL, .int .i64 sT, .int .i64 sR, .int .i64 sO, .int .i64 sP, .int .i64 sI, .int .i64 sX, .int .i64 sY, .int .i64 sS] u)).heap.size ((w.alloc (.cells #[.int .i64 W, .int .i64 H, .slice a n cap] t)).alloc (.cells #[.int .i64 sL, .int .i64 sT, .int .i64 sR, .int .i64 sO, .int .i64 sP, .int .i64 sI, .int .i64 sX, .int .i64 sY, .int .i64 sS] u)) wa) :
    (wa.cell? ⟨w.heap.size, 0, none⟩ = some (.int .i64 W) ∧ wa.cell? ⟨w.heap.size, 1, none⟩ = some (.int .i64 H) ∧ wa.cell? ⟨w.heap.size, 2, none⟩ = some (.slice a n cap)) ∧
    wa.cell? ⟨w.heap.size + 1, 0, none⟩ = some (.int .i64 sL) ∧ wa.cell? ⟨w.heap.size + 1, 1, none⟩ = some (.int .i64 sT) ∧ wa.cell? ⟨w.heap.size + 1, 2, none⟩ = some (.int .i64 sR) ∧ wa.cell? ⟨w.heap.size + 1, 3, none⟩ = some (.int .i64 sO) ∧ wa.cell? ⟨w.heap.size + 1, 6, none⟩ = some (.int .i64 sX) ∧ wa.cell? ⟨w.heap.size + 1, 7, none⟩ = some (.int .i64 sY) := by
  refine ⟨⟨?_, ?_, ?_⟩, ?_, ?_, ?_, ?_, ?_, ?_⟩
  · rw [hb.cell (p := ⟨w.heap.size, 0, none⟩) (by simp; omega)]; simp
  · rw [hb.cell (p := ⟨w.heap.size, 1, none⟩) (by simp; omega)]; simp
  · rw [hb.cell (p := ⟨w.heap.size, 2, none⟩) (by simp; omega)]; simp
  · rw [hb.cell (p := ⟨w.heap.size + 1, 0, none⟩) (by simp)]; simp
  · rw [hb.cell (p := ⟨w.heap.size + 1, 1, none⟩) (by simp)]; simp
  · rw [hb.cell (p := ⟨w.heap.size + 1, 2, none⟩) (by simp)]; simp
  · rw [hb.cell (p := ⟨w.heap.size + 1, 3, none⟩) (by simp)]; simp
  · rw [hb.cell (p := ⟨w.heap.size + 1, 6, none⟩) (by simp)]; simp
  · rw [hb.cell (p := ⟨w.heap.size + 1, 7, none⟩) (by simp)]; simp
set_option maxRecDepth 10000 in
set_option maxHeartbeats 1000000 in
theorem wide_err (ad : Nat → Addr) (W H share : Int) (s : Sp) (f : Nat → Int) (a : Option Addr) (n cap : Nat) (w : World) (he : Errs w ad [1, 4]) (h : IRow w a n f) (hn : n ≤ 9223372036854775807) (g : ¬ picG W H n f) :
    Calls Tryz.prog 8 #[.agg #[.int .i64 W, .int .i64 H, .slice a n cap], aggSp s, .int .i64 share] w fun e w' => e = .returned (.tuple #[.int .i64 0, errV ad (picB W H)]) ∧ Below w.heap.size w w' := by
  have HV := Lib.hid (fun o1 o2 => validP_bad ad W H f a n cap ((w.alloc o1).alloc o2) (he.below (below2 o1 o2)) (h.below (below2 o1 o2)) hn g)
  clear he h g
  obtain ⟨sL, sT, sR, sO, sP, sI, sX, sY, sS⟩ := s
  unfold errV at *
  unfold aggSp
  generalize picB W H = pb at *
  go_enter Tryz.func8, Tryz.ntmps8
  go_wp2_with fail
  refine (HV.out _ _).mono ?_; rintro e wa ⟨rfl, hb1⟩
  have HB := Lib.hid (below_step (below2 _ _) hb1)
  clear hb1 HV
  go_wp2
  go_ret2
  exact ⟨rfl, HB.out⟩
set_option maxRecDepth 10000 in
set_option maxHeartbeats 4000000 in
theorem wide_shape (ad : Nat → Addr) (W H share : Int) (s : Sp) (f : Nat → Int) (a : Option Addr) (n cap : Nat) (w : World) (he : Errs w ad [1, 4]) (h : IRow w a n f) (g : picG W H n f) (hno : ¬ widOk W H s share) :
    Calls Tryz.prog 8 #[.agg #[.int .i64 W, .int .i64 H, .slice a n cap], aggSp s, .int .i64 share] w fun e w' => e = .returned (.tuple #[.int .i64 0, errV ad 4]) ∧ Below w.heap.size w w' := by
  have HV := Lib.hid (fun o1 o2 => validP_ok ad W H f a n cap ((w.alloc o1).alloc o2) (he.below (below2 o1 o2)) (h.below (below2 o1 o2)) g)
  have HFX := Lib.hid farW_any
  have HE := Lib.hid he
  clear he h g
  obtain ⟨sL, sT, sR, sO, sP, sI, sX, sY, sS⟩ := s
  unfold widOk at hno
  simp only at hno
  unfold errV
  unfold aggSp
  go_enter Tryz.func8, Tryz.ntmps8
  go_wp2_with fail
  refine (HV.out _ _).mono ?_; rintro e wa ⟨rfl, hb1⟩
  have hbw := below_step (below2 _ _) hb1
  have e4 : wa.cell? ⟨0, 0, none⟩ = some (.iface 230 (.pointer (some (ad 4)))) := (HE.out.below hbw) 4 (by decide)
  obtain ⟨⟨k0, k1, k2⟩, q0, q1, q2, q3, q6, q7⟩ := wide_boxes hb1
  have HB := Lib.hid hbw
  clear hb1 hbw HV HE k2
  by_cases c0 : share < 1
  · have d0 : decide (share < 1) = true := by simpa using c0
    clear hno
    go_wp2
    go_quiet (fail)
    go_wp2
    go_ret2
    exact ⟨rfl, below_drewN HB.out _⟩
  have d0 : decide (share < 1) = false := by simp <;> omega
  by_cases c1 : 100 < share
  · have d1 : decide (100 < share) = true := by simpa using c1
    clear hno
    go_wp2
    go_quiet (fail)
    go_wp2
    go_ret2
    exact ⟨rfl, below_drewN HB.out _⟩
  have d1 : decide (100 < share) = false := by simp <;> omega
  by_cases c2 : sL < 0
  · have d2 : decide (sL < 0) = true := by simpa using c2
    clear hno
    go_wp2
    go_quiet (fail)
    go_wp2
    go_ret2
    exact ⟨rfl, below_drewN HB.out _⟩
  have d2 : decide (sL < 0) = false := by simp <;> omega
  by_cases c3 : sR < sL
  · have d3 : decide (sR < sL) = true := by simpa using c3
    clear hno
    go_wp2
    go_quiet (fail)
    go_wp2
    go_ret2
    exact ⟨rfl, below_drewN HB.out _⟩
  have d3 : decide (sR < sL) = false := by simp <;> omega
  by_cases c4 : W ≤ sR
  · have d4 : decide (W ≤ sR) = true := by simpa using c4
    clear hno
    go_wp2
    go_quiet (fail)
    go_wp2
    go_ret2
    exact ⟨rfl, below_drewN HB.out _⟩
  have d4 : decide (W ≤ sR) = false := by simp <;> omega
  by_cases c5 : sT < 0
  · have d5 : decide (sT < 0) = true := by simpa using c5
    clear hno
    go_wp2
    go_quiet (fail)
    go_wp2
    go_ret2
    exact ⟨rfl, below_drewN HB.out _⟩
  have d5 : decide (sT < 0) = false := by simp <;> omega
  by_cases c6 : sO < sT
  · have d6 : decide (sO < sT) = true := by simpa using c6
    clear hno
    go_wp2
    go_quiet (fail)
    go_wp2
    go_ret2
    exact ⟨rfl, below_drewN HB.out _⟩
  have d6 : decide (sO < sT) = false := by simp <;> omega
  by_cases c7 : H ≤ sO
  · have d7 : decide (H ≤ sO) = true := by simpa using c7
    clear hno
    go_wp2
    go_quiet (fail)
    go_wp2
    go_ret2
    exact ⟨rfl, below_drewN HB.out _⟩
  have d7 : decide (H ≤ sO) = false := by simp <;> omega
  go_wp2_with fail
  refine (HFX.out _ _).mono ?_; rintro e w2 ⟨rfl, rfl⟩
  by_cases c8 : 268435456 < sX ∨ sX < -268435456
  · have d8 : (decide (268435456 < sX) || decide (sX < -268435456)) = true := by simpa using c8
    generalize (decide (268435456 < sX) || decide (sX < -268435456)) = fx at *
    subst d8
    clear hno
    go_wp2
    go_quiet (fail)
    go_wp2
    go_ret2
    exact ⟨rfl, below_drewN HB.out _⟩
  have d8 : (decide (268435456 < sX) || decide (sX < -268435456)) = false := by simp <;> omega
  generalize (decide (268435456 < sX) || decide (sX < -268435456)) = fx at *
  subst d8
  go_wp2_with fail
  refine (HFX.out _ _).mono ?_; rintro e w2 ⟨rfl, rfl⟩
  have d9 : (decide (268435456 < sY) || decide (sY < -268435456)) = true := by simp <;> omega
  generalize (decide (268435456 < sY) || decide (sY < -268435456)) = fy at *
  subst d9
  clear hno
  go_wp2
  go_quiet (fail)
  go_wp2
  go_ret2
  exact ⟨rfl, below_drewN HB.out _⟩
/-- The cells of the box, behind the first call. -/
theorem reach_box {w wa : World} {sL sT sR sO sP sI sX sY sS : Int} {u : TypeId} (hb : Below (w.alloc (.cells #[.int .i64 sL, .int .i64 sT, .int .i64 sR, .int .i64 sO, .int .i64 sP, .int .i64 sI, .int .i64 sX, .int .i64 sY, .int .i64 sS] u)).heap.size (w.alloc (.cells #[.int .i64 sL, .int .i64 sT, .int .i64 sR, .int .i64 sO, .int .i64 sP, .int .i64 sI, .int .i64 sX, .int .i64 sY, .int .i64 sS] u)) wa) :
    wa.cell? ⟨w.heap.size, 0, none⟩ = some (.int .i64 sL) ∧ wa.cell? ⟨w.heap.size, 1, none⟩ = some (.int .i64 sT) ∧ wa.cell? ⟨w.heap.size, 2, none⟩ = some (.int .i64 sR) ∧ wa.cell? ⟨w.heap.size, 3, none⟩ = some (.int .i64 sO) ∧ wa.cell? ⟨w.heap.size, 6, none⟩ = some (.int .i64 sX) ∧ wa.cell? ⟨w.heap.size, 7, none⟩ = some (.int .i64 sY) ∧ wa.cell? ⟨w.heap.size, 8, none⟩ = some (.int .i64 sS) := by
  refine ⟨?_, ?_, ?_, ?_, ?_, ?_, ?_⟩
  · rw [hb.cell (p := ⟨w.heap.size, 0, none⟩) (by simp)]; simp
  · rw [hb.cell (p := ⟨w.heap.size, 1, none⟩) (by simp)]; simp
  · rw [hb.cell (p := ⟨w.heap.size, 2, none⟩) (by simp)]; simp
  · rw [hb.cell (p := ⟨w.heap.size, 3, none⟩) (by simp)]; simp
  · rw [hb.cell (p := ⟨w.heap.size, 6, none⟩) (by simp)]; simp
  · rw [hb.cell (p := ⟨w.heap.size, 7, none⟩) (by simp)]; simp
  · rw [hb.cell (p := ⟨w.heap.size, 8, none⟩) (by simp)]; simp
set_option maxRecDepth 10000 in
set_option maxHeartbeats 1000000 in
theorem reach_err (W H share : Int) (s : Sp) (f : Nat → Int) (b o : Nat) (a : Option Addr) (n cap : Nat) (w : World) (hp : PicAt w b o W H a n cap f) (hn : n ≤ 9223372036854775807) (g : ¬ picG W H n f) :
    Calls Tryz.prog 10 #[.pointer (some ⟨b, o, none⟩), aggSp s, .int .i64 share] w fun e w' => e = .returned (.tuple #[.int .i64 0, .int .i64 (picB W H + 1 : Nat)]) ∧ Below w.heap.size w w' := by
  have hb0 : ∀ o', Below w.heap.size w (w.alloc o') := fun o' => (Below.refl _ _).alloc (Nat.le_refl _) _
  have HV := Lib.hid (fun o' => picE_bad b o W H f a n cap (w.alloc o') (hp.below (hb0 o')) hn g)
  have HB0 := Lib.hid hb0
  clear hp g hb0
  obtain ⟨sL, sT, sR, sO, sP, sI, sX, sY, sS⟩ := s
  unfold aggSp
  generalize picB W H = pb at *
  have hpb : (0 : Int) < ((pb + 1 : Nat) : Int) := by omega
  generalize ((pb + 1 : Nat) : Int) = pe at *
  go_enter Tryz.func10, Tryz.ntmps10
  go_wp2_with fail
  refine (HV.out _).mono ?_; rintro e wa ⟨rfl, hb1⟩
  have HB := Lib.hid (below_step (HB0.out _) hb1)
  clear hb1 HV
  go_wp2
  go_ret2
  exact ⟨rfl, HB.out⟩
set_option maxRecDepth 10000 in
set_option maxHeartbeats 8000000 in
theorem reach_shape (W H share : Int) (s : Sp) (f : Nat → Int) (b o : Nat) (a : Option Addr) (n cap : Nat) (w : World) (hp : PicAt w b o W H a n cap f) (g : picG W H n f) (hno : ¬ widOk W H s share) :
    Calls Tryz.prog 10 #[.pointer (some ⟨b, o, none⟩), aggSp s, .int .i64 share] w fun e w' => e = .returned (.tuple #[.int .i64 0, .int .i64 5]) ∧ Below w.heap.size w w' := by
  have hb0 : ∀ o', Below w.heap.size w (w.alloc o') := fun o' => (Below.refl _ _).alloc (Nat.le_refl _) _
  have HV := Lib.hid (fun o' => picE_ok b o W H f a n cap (w.alloc o') (hp.below (hb0 o')) g)
  have HB0 := Lib.hid hb0
  have HF := Lib.hid farR_any
  have HPi := Lib.hid hp
  clear hp g hb0
  obtain ⟨sL, sT, sR, sO, sP, sI, sX, sY, sS⟩ := s
  unfold widOk at hno
  simp only at hno
  unfold aggSp
  go_enter Tryz.func10, Tryz.ntmps10
  go_wp2_with fail
  refine (HV.out _).mono ?_; rintro e wa ⟨rfl, hb1⟩
  obtain ⟨q0, q1, q2, q3, q6, q7, _⟩ := reach_box hb1
  have HB := Lib.hid (below_step (HB0.out _) hb1)
  have hq := HPi.out.below HB.out
  have k0 := hq.1
  have k1 := hq.2.1
  clear hb1 HV hq
  go_wp2_with fail
  refine (HF.out _ _).mono ?_; rintro e w2 ⟨rfl, rfl⟩
  go_wp2_with fail
  refine (HF.out _ _).mono ?_; rintro e w2 ⟨rfl, rfl⟩
  obtain ⟨fx, hfx⟩ : ∃ fx, (decide (268435456 < sX) || decide (sX < -268435456)) = fx := ⟨_, rfl⟩
  obtain ⟨fy, hfy⟩ : ∃ fy, (decide (268435456 < sY) || decide (sY < -268435456)) = fy := ⟨_, rfl⟩
  rw [hfx, hfy]
  have HFX : Hid (fx = false → -268435456 ≤ sX ∧ sX ≤ 268435456) := Lib.hid (fun h => by subst h; simp at hfx; omega)
  have HFY : Hid (fy = false → -268435456 ≤ sY ∧ sY ≤ 268435456) := Lib.hid (fun h => by subst h; simp at hfy; omega)
  clear hfx hfy
  obtain ⟨bx, hbx⟩ : ∃ bx, decide (0 ≤ sL ∧ sL ≤ sR ∧ sR < W ∧ 0 ≤ sT ∧ sT ≤ sO) = bx := ⟨_, rfl⟩
  go_upto_region 6 with (fail)
  go_cut [11] (fun v wx => v = .bool bx ∧ ∃ q, wx = wa.drewN q)
  case first =>
    clear hno
    by_cases c0 : 0 ≤ sL
    case neg =>
      have d0 : decide (0 ≤ sL) = false := by simpa using c0
      have hbf : bx = false := by rw [← hbx]; exact decide_eq_false (by omega)
      clear hbx
      subst hbf
      go_quiet (fail)
      go_wp2
      go_meet
      case rel => exact ⟨rfl, _, rfl⟩
    have d0 : decide (0 ≤ sL) = true := by simpa using c0
    by_cases c1 : sL ≤ sR
    case neg =>
      have d1 : decide (sL ≤ sR) = false := by simpa using c1
      have hbf : bx = false := by rw [← hbx]; exact decide_eq_false (by omega)
      clear hbx
      subst hbf
      go_quiet (fail)
      go_wp2
      go_meet
      case rel => exact ⟨rfl, _, rfl⟩
    have d1 : decide (sL ≤ sR) = true := by simpa using c1
    by_cases c2 : sR < W
    case neg =>
      have d2 : decide (sR < W) = false := by simpa using c2
      have hbf : bx = false := by rw [← hbx]; exact decide_eq_false (by omega)
      clear hbx
      subst hbf
      go_quiet (fail)
      go_wp2
      go_meet
      case rel => exact ⟨rfl, _, rfl⟩
    have d2 : decide (sR < W) = true := by simpa using c2
    by_cases c3 : 0 ≤ sT
    case neg =>
      have d3 : decide (0 ≤ sT) = false := by simpa using c3
      have hbf : bx = false := by rw [← hbx]; exact decide_eq_false (by omega)
      clear hbx
      subst hbf
      go_quiet (fail)
      go_wp2
      go_meet
      case rel => exact ⟨rfl, _, rfl⟩
    have d3 : decide (0 ≤ sT) = true := by simpa using c3
    by_cases c4 : sT ≤ sO
    case neg =>
      have d4 : decide (sT ≤ sO) = false := by simpa using c4
      have hbf : bx = false := by rw [← hbx]; exact decide_eq_false (by omega)
      clear hbx
      subst hbf
      go_quiet (fail)
      go_wp2
      go_meet
      case rel => exact ⟨rfl, _, rfl⟩
    have d4 : decide (sT ≤ sO) = true := by simpa using c4
    have hbt : bx = true := by rw [← hbx]; exact decide_eq_true (by omega)
    clear hbx
    subst hbt
    go_quiet (fail)
    go_wp2
    go_meet
    case rel => exact ⟨rfl, _, rfl⟩
  obtain ⟨rfl, q, rfl⟩ := hcut
  have HB2 := Lib.hid (below_drewN HB.out q)
  have hk1 : (wa.drewN q).cell? ⟨b, o + 1, none⟩ = some (.int .i64 H) := by simpa using k1
  have hq3 : (wa.drewN q).cell? ⟨w.heap.size, 3, none⟩ = some (.int .i64 sO) := by simpa using q3
  clear k0 k1 q0 q1 q2 q3 q6 q7 HB
  generalize wa.drewN q = wb at *
  by_cases c5 : share < 1
  · have d5 : decide (share < 1) = true := by simpa using c5
    clear hno hbx
    go_wp2
    go_quiet (fail)
    go_wp2
    go_ret2
    exact ⟨rfl, below_drewN HB2.out _⟩
  have d5 : decide (share < 1) = false := by simp <;> omega
  by_cases c6 : 100 < share
  · have d6 : decide (100 < share) = true := by simpa using c6
    clear hno hbx
    go_wp2
    go_quiet (fail)
    go_wp2
    go_ret2
    exact ⟨rfl, below_drewN HB2.out _⟩
  have d6 : decide (100 < share) = false := by simp <;> omega
  cases bx with
  | false =>
    clear hno hbx
    go_wp2
    go_quiet (fail)
    go_wp2
    go_ret2
    exact ⟨rfl, below_drewN HB2.out _⟩
  | true =>
    have hbox := of_decide_eq_true hbx
    by_cases c7 : H ≤ sO
    · have d7 : decide (H ≤ sO) = true := by simpa using c7
      clear hno hbx
      go_wp2
      go_quiet (fail)
      go_wp2
      go_ret2
      exact ⟨rfl, below_drewN HB2.out _⟩
    have d7 : decide (H ≤ sO) = false := by simp <;> omega
    cases fx with
    | true =>
      clear hno hbx
      go_wp2
      go_quiet (fail)
      go_wp2
      go_ret2
      exact ⟨rfl, below_drewN HB2.out _⟩
    | false =>
      have hx := HFX.out rfl
      cases fy with
      | true =>
        clear hno hbx
        go_wp2
        go_quiet (fail)
        go_wp2
        go_ret2
        exact ⟨rfl, below_drewN HB2.out _⟩
      | false =>
        have hy := HFY.out rfl
        exact absurd (by omega) hno
end Go.Proofs.YthbekddpnkammaaGreatDoor
