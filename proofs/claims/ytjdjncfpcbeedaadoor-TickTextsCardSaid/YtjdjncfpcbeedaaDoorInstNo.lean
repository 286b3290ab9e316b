/- Instants of stamps that have none: what tick.Instant answers then. -/
import Derived.Test.YtjdjncfpcbeedaaDoorInst
namespace Go.Proofs.YtjdjncfpcbeedaaDoor
open Go.RowKit

theorem instant_no1 (ad : Nat → Addr) (D A : Nat → Int) (a : Option Addr) (len cap : Nat) (day micro : Int) (w : World) (he : Errs w ad [1, 2, 3]) (h : Tab w a len D A) (g : goodT D A len) (c : 4000000 < day) :
    Calls Tryd.prog 49 #[.slice a len cap, .agg #[.int .i64 day, .int .i64 micro]] w fun e w' => e = .returned (.tuple #[.int .i64 0, errV ad 2]) ∧ Below w.heap.size w w' := by
  have hb0 : ∀ o, Below w.heap.size w (w.alloc o) := fun o => (Below.refl _ _).alloc (Nat.le_refl _) _
  have V := fun o => valid_good ad D A a len cap (w.alloc o) (he.below (hb0 o)) (h.below (hb0 o)) g
  have HV := Lib.hid V
  have HE := Lib.hid he
  have d1 : decide (4000000 < day) = true := by simpa using c
  clear V h he g c
  unfold errV
  go_enter Tryd.func49, Tryd.ntmps49
  go_wp2_with fail
  refine (HV.out _).mono ?_; rintro e w1 ⟨rfl, hb1⟩
  have q0 : w1.cell? ⟨w.heap.size, 0, none⟩ = some (.int .i64 day) := by rw [hb1.cell (p := ⟨w.heap.size, 0, none⟩) (by simp)]; simp
  have q1 : w1.cell? ⟨w.heap.size, 1, none⟩ = some (.int .i64 micro) := by rw [hb1.cell (p := ⟨w.heap.size, 1, none⟩) (by simp)]; simp
  have hbw := below_step (hb0 _) hb1
  have g2 : w1.cell? ⟨2, 0, none⟩ = some (.iface 225 (.pointer (some (ad 2)))) := (HE.out.below hbw) 2 (by decide)
  have HB := Lib.hid hbw
  clear hbw hb1 hb0 HV HE
  go_wp2
  go_quiet (fail)
  go_wp2
  go_quiet (fail)
  go_wp2
  go_ret2
  exact ⟨rfl, by first | exact below_drewN HB.out _ | exact below_drewN (below_drewN HB.out _) _⟩

theorem instant_no2 (ad : Nat → Addr) (D A : Nat → Int) (a : Option Addr) (len cap : Nat) (day micro : Int) (w : World) (he : Errs w ad [1, 2, 3]) (h : Tab w a len D A) (g : goodT D A len) (c0 : ¬ 4000000 < day) (c : day < -4000000) :
    Calls Tryd.prog 49 #[.slice a len cap, .agg #[.int .i64 day, .int .i64 micro]] w fun e w' => e = .returned (.tuple #[.int .i64 0, errV ad 2]) ∧ Below w.heap.size w w' := by
  have hb0 : ∀ o, Below w.heap.size w (w.alloc o) := fun o => (Below.refl _ _).alloc (Nat.le_refl _) _
  have V := fun o => valid_good ad D A a len cap (w.alloc o) (he.below (hb0 o)) (h.below (hb0 o)) g
  have HV := Lib.hid V
  have HE := Lib.hid he
  have d1 : decide (4000000 < day) = false := by simpa using c0
  have d2 : decide (day < -4000000) = true := by simpa using c
  clear c0
  clear V h he g c
  unfold errV
  go_enter Tryd.func49, Tryd.ntmps49
  go_wp2_with fail
  refine (HV.out _).mono ?_; rintro e w1 ⟨rfl, hb1⟩
  have q0 : w1.cell? ⟨w.heap.size, 0, none⟩ = some (.int .i64 day) := by rw [hb1.cell (p := ⟨w.heap.size, 0, none⟩) (by simp)]; simp
  have q1 : w1.cell? ⟨w.heap.size, 1, none⟩ = some (.int .i64 micro) := by rw [hb1.cell (p := ⟨w.heap.size, 1, none⟩) (by simp)]; simp
  have hbw := below_step (hb0 _) hb1
  have g2 : w1.cell? ⟨2, 0, none⟩ = some (.iface 225 (.pointer (some (ad 2)))) := (HE.out.below hbw) 2 (by decide)
  have HB := Lib.hid hbw
  clear hbw hb1 hb0 HV HE
  go_wp2
  go_quiet (fail)
  go_wp2
  go_quiet (fail)
  go_wp2
  go_ret2
  exact ⟨rfl, by first | exact below_drewN HB.out _ | exact below_drewN (below_drewN HB.out _) _⟩

theorem instant_no3 (ad : Nat → Addr) (D A : Nat → Int) (a : Option Addr) (len cap : Nat) (day micro : Int) (w : World) (he : Errs w ad [1, 2, 3]) (h : Tab w a len D A) (g : goodT D A len) (c0 : ¬ 4000000 < day) (c1 : ¬ day < -4000000) (c : micro < 0) :
    Calls Tryd.prog 49 #[.slice a len cap, .agg #[.int .i64 day, .int .i64 micro]] w fun e w' => e = .returned (.tuple #[.int .i64 0, errV ad 2]) ∧ Below w.heap.size w w' := by
  have hb0 : ∀ o, Below w.heap.size w (w.alloc o) := fun o => (Below.refl _ _).alloc (Nat.le_refl _) _
  have V := fun o => valid_good ad D A a len cap (w.alloc o) (he.below (hb0 o)) (h.below (hb0 o)) g
  have HV := Lib.hid V
  have HE := Lib.hid he
  have d1 : decide (4000000 < day) = false := by simpa using c0
  have d2 : decide (day < -4000000) = false := by simpa using c1
  have d3 : decide (micro < 0) = true := by simpa using c
  clear c0 c1
  clear V h he g c
  unfold errV
  go_enter Tryd.func49, Tryd.ntmps49
  go_wp2_with fail
  refine (HV.out _).mono ?_; rintro e w1 ⟨rfl, hb1⟩
  have q0 : w1.cell? ⟨w.heap.size, 0, none⟩ = some (.int .i64 day) := by rw [hb1.cell (p := ⟨w.heap.size, 0, none⟩) (by simp)]; simp
  have q1 : w1.cell? ⟨w.heap.size, 1, none⟩ = some (.int .i64 micro) := by rw [hb1.cell (p := ⟨w.heap.size, 1, none⟩) (by simp)]; simp
  have hbw := below_step (hb0 _) hb1
  have g2 : w1.cell? ⟨2, 0, none⟩ = some (.iface 225 (.pointer (some (ad 2)))) := (HE.out.below hbw) 2 (by decide)
  have HB := Lib.hid hbw
  clear hbw hb1 hb0 HV HE
  go_wp2
  go_quiet (fail)
  go_wp2
  go_quiet (fail)
  go_wp2
  go_ret2
  exact ⟨rfl, by first | exact below_drewN HB.out _ | exact below_drewN (below_drewN HB.out _) _⟩

set_option maxHeartbeats 1000000 in
theorem instant_no4 (ad : Nat → Addr) (D A : Nat → Int) (a : Option Addr) (len cap : Nat) (day micro : Int) (w : World) (he : Errs w ad [1, 2, 3]) (h : Tab w a len D A) (g : goodT D A len) (c0 : ¬ 4000000 < day) (c1 : ¬ day < -4000000) (c2 : ¬ micro < 0) (c3 : lengthF D A len day ≤ micro) :
    Calls Tryd.prog 49 #[.slice a len cap, .agg #[.int .i64 day, .int .i64 micro]] w fun e w' => e = .returned (.tuple #[.int .i64 0, errV ad 2]) ∧ Below w.heap.size w w' := by
  have hb0 : ∀ o, Below w.heap.size w (w.alloc o) := fun o => (Below.refl _ _).alloc (Nat.le_refl _) _
  have V := fun o => valid_good ad D A a len cap (w.alloc o) (he.below (hb0 o)) (h.below (hb0 o)) g
  have HV := Lib.hid V
  have HE := Lib.hid he
  have hsm := goodT_small g
  have hl : len ≤ 1000000 := by have := g.1; omega
  have o1 := ofTo_bd (D := D) (day := day) hsm
  have o2 := ofTo_bd (D := D) (day := day + 1) hsm
  have d1 : decide (4000000 < day) = false := by simpa using c0
  have d2 : decide (day < -4000000) = false := by simpa using c1
  have d3 : decide (micro < 0) = false := by simpa using c2
  have hlen : lengthF D A len day ≤ 88400000000 := by unfold lengthF; omega
  have L := fun W (hT : Tab W a len D A) => length_any D A day a len cap hl (by omega) (by omega) hsm W hT
  have S := fun W (hT : Tab W a len D A) => start_any D A day a len cap hl (by omega) (by omega) hsm W hT
  have HL := Lib.hid L
  have HS := Lib.hid S
  have HT := Lib.hid h
  have d4 : decide (lengthF D A len day ≤ micro) = true := by simpa using c3
  clear V L S h he g hsm c0 c1 c2 c3
  unfold errV
  go_enter Tryd.func49, Tryd.ntmps49
  go_wp2_with fail
  refine (HV.out _).mono ?_; rintro e w1 ⟨rfl, hb1⟩
  have q0 : w1.cell? ⟨w.heap.size, 0, none⟩ = some (.int .i64 day) := by rw [hb1.cell (p := ⟨w.heap.size, 0, none⟩) (by simp)]; simp
  have q1 : w1.cell? ⟨w.heap.size, 1, none⟩ = some (.int .i64 micro) := by rw [hb1.cell (p := ⟨w.heap.size, 1, none⟩) (by simp)]; simp
  have hT1 : Tab w1 a len D A := (HT.out.below (hb0 _)).below hb1
  have hw1 := hb1.size
  have hbw := below_step (hb0 _) hb1
  have HB := Lib.hid hbw
  have HT1 := Lib.hid hT1
  clear hbw hb1 hT1 hb0 HV HT
  go_wp2
  simp only [World.size_alloc] at hw1
  go_region_held3 (fun w' => w'.cell? ⟨w.heap.size, 0, none⟩ = some (.int .i64 day) ∧ w'.cell? ⟨w.heap.size, 1, none⟩ = some (.int .i64 micro))
    (first | go_keep | (exact ⟨by rw [hb2.cell (p := ⟨w.heap.size, 0, none⟩) (by simp; omega)]; simpa using q0, by rw [hb2.cell (p := ⟨w.heap.size, 1, none⟩) (by simp; omega)]; simpa using q1⟩))
    (first | (go_at_call 78; refine (HL.out _ (HT1.out.below (by go_grown))).mono ?_; rintro e w2 ⟨rfl, hb2⟩))
  rename_i hHeld
  obtain ⟨k0, k1⟩ := hHeld
  have hb12 : Below w1.heap.size w1 w2 := below_step (below_drewN (Below.refl _ _) 1) hb2
  have hw2 := hb12.size
  have HB2 := Lib.hid (below_step HB.out hb12)
  have g2 : w2.cell? ⟨2, 0, none⟩ = some (.iface 225 (.pointer (some (ad 2)))) := (HE.out.below HB2.out) 2 (by decide)
  clear hb2 hb12 q0 q1 HT1 HB HL HS k0 k1
  go_wp2
  go_quiet (fail)
  go_wp2
  go_ret2
  exact ⟨rfl, below_drewN HB2.out _⟩

set_option maxHeartbeats 1000000 in
theorem instant_no5 (ad : Nat → Addr) (D A : Nat → Int) (a : Option Addr) (len cap : Nat) (day micro : Int) (w : World) (he : Errs w ad [1, 2, 3]) (h : Tab w a len D A) (g : goodT D A len) (c0 : ¬ 4000000 < day) (c1 : ¬ day < -4000000) (c2 : ¬ micro < 0) (c3 : ¬ lengthF D A len day ≤ micro) (c4 : goodB (instF D A len day micro) = false) :
    Calls Tryd.prog 49 #[.slice a len cap, .agg #[.int .i64 day, .int .i64 micro]] w fun e w' => e = .returned (.tuple #[.int .i64 0, errV ad 2]) ∧ Below w.heap.size w w' := by
  have hb0 : ∀ o, Below w.heap.size w (w.alloc o) := fun o => (Below.refl _ _).alloc (Nat.le_refl _) _
  have V := fun o => valid_good ad D A a len cap (w.alloc o) (he.below (hb0 o)) (h.below (hb0 o)) g
  have HV := Lib.hid V
  have HE := Lib.hid he
  have hsm := goodT_small g
  have hl : len ≤ 1000000 := by have := g.1; omega
  have o1 := ofTo_bd (D := D) (day := day) hsm
  have o2 := ofTo_bd (D := D) (day := day + 1) hsm
  have d1 : decide (4000000 < day) = false := by simpa using c0
  have d2 : decide (day < -4000000) = false := by simpa using c1
  have d3 : decide (micro < 0) = false := by simpa using c2
  have hlen : lengthF D A len day ≤ 88400000000 := by unfold lengthF; omega
  have L := fun W (hT : Tab W a len D A) => length_any D A day a len cap hl (by omega) (by omega) hsm W hT
  have S := fun W (hT : Tab W a len D A) => start_any D A day a len cap hl (by omega) (by omega) hsm W hT
  have HL := Lib.hid L
  have HS := Lib.hid S
  have HT := Lib.hid h
  have d4 : decide (lengthF D A len day ≤ micro) = false := by simpa using c3
  have hst : -400000000000000000 ≤ startF D A len day ∧ startF D A len day ≤ 400000000000000000 := by unfold startF; omega
  have e5 := Lib.hid (show startF D A len day + micro = instF D A len day micro from rfl)
  clear V L S h he g hsm
  unfold errV
  go_enter Tryd.func49, Tryd.ntmps49
  go_wp2_with fail
  refine (HV.out _).mono ?_; rintro e w1 ⟨rfl, hb1⟩
  have q0 : w1.cell? ⟨w.heap.size, 0, none⟩ = some (.int .i64 day) := by rw [hb1.cell (p := ⟨w.heap.size, 0, none⟩) (by simp)]; simp
  have q1 : w1.cell? ⟨w.heap.size, 1, none⟩ = some (.int .i64 micro) := by rw [hb1.cell (p := ⟨w.heap.size, 1, none⟩) (by simp)]; simp
  have hT1 : Tab w1 a len D A := (HT.out.below (hb0 _)).below hb1
  have hw1 := hb1.size
  have hbw := below_step (hb0 _) hb1
  have HB := Lib.hid hbw
  have HT1 := Lib.hid hT1
  clear hbw hb1 hT1 hb0 HV HT
  go_wp2
  simp only [World.size_alloc] at hw1
  go_region_held3 (fun w' => w'.cell? ⟨w.heap.size, 0, none⟩ = some (.int .i64 day) ∧ w'.cell? ⟨w.heap.size, 1, none⟩ = some (.int .i64 micro))
    (first | go_keep | (exact ⟨by rw [hb2.cell (p := ⟨w.heap.size, 0, none⟩) (by simp; omega)]; simpa using q0, by rw [hb2.cell (p := ⟨w.heap.size, 1, none⟩) (by simp; omega)]; simpa using q1⟩))
    (first | (go_at_call 78; refine (HL.out _ (HT1.out.below (by go_grown))).mono ?_; rintro e w2 ⟨rfl, hb2⟩))
  rename_i hHeld
  obtain ⟨k0, k1⟩ := hHeld
  have hb12 : Below w1.heap.size w1 w2 := below_step (below_drewN (Below.refl _ _) 1) hb2
  have hw2 := hb12.size
  have HB2 := Lib.hid (below_step HB.out hb12)
  have HT2 := Lib.hid (HT1.out.below hb12)
  clear hb2 hb12 q0 q1 HT1 HB HL
  go_wp2
  go_region_held3 (fun w' => w'.cell? ⟨w.heap.size, 0, none⟩ = some (.int .i64 day) ∧ w'.cell? ⟨w.heap.size, 1, none⟩ = some (.int .i64 micro))
    (first | go_keep | (exact ⟨by rw [hb3.cell (p := ⟨w.heap.size, 0, none⟩) (by simp; omega)]; simpa using k0, by rw [hb3.cell (p := ⟨w.heap.size, 1, none⟩) (by simp; omega)]; simpa using k1⟩))
    (first | (go_at_call 77; refine (HS.out _ (HT2.out.below (by go_grown))).mono ?_; rintro e w3 ⟨rfl, hb3⟩))
  clear k0 k1
  have hb23 : Below w2.heap.size w2 w3 := below_step (below_drewN (Below.refl _ _) 1) hb3
  have HB3 := Lib.hid (below_step HB2.out hb23)
  have g2 : w3.cell? ⟨2, 0, none⟩ = some (.iface 225 (.pointer (some (ad 2)))) := (HE.out.below HB3.out) 2 (by decide)
  clear hb3 hb23 HB2 HT2 HS
  rw [e5.out, wrap_small (by unfold instF; omega) (by unfold instF; omega)]
  go_wp2_with fail
  refine (good_any _ _).mono ?_; rintro e w4 ⟨rfl, rfl⟩
  rw [c4]
  go_wp2
  go_quiet (fail)
  go_wp2
  go_ret2
  exact ⟨rfl, below_drewN HB3.out _⟩

theorem instant_no (ad : Nat → Addr) (D A : Nat → Int) (a : Option Addr) (len cap : Nat) (day micro : Int) (w : World) (he : Errs w ad [1, 2, 3]) (h : Tab w a len D A) (g : goodT D A len) (hn : ¬ instOk D A len day micro) :
    Calls Tryd.prog 49 #[.slice a len cap, .agg #[.int .i64 day, .int .i64 micro]] w fun e w' => e = .returned (.tuple #[.int .i64 0, errV ad 2]) ∧ Below w.heap.size w w' := by
  by_cases c0 : 4000000 < day
  · exact instant_no1 ad D A a len cap day micro w he h g c0
  by_cases c1 : day < -4000000
  · exact instant_no2 ad D A a len cap day micro w he h g c0 c1
  by_cases c2 : micro < 0
  · exact instant_no3 ad D A a len cap day micro w he h g c0 c1 c2
  by_cases c3 : lengthF D A len day ≤ micro
  · exact instant_no4 ad D A a len cap day micro w he h g c0 c1 c2 c3
  · refine instant_no5 ad D A a len cap day micro w he h g c0 c1 c2 c3 ?_
    cases hg : goodB (instF D A len day micro) with
    | false => rfl
    | true => exact absurd ⟨by omega, by omega, by omega, by omega, hg⟩ hn
end Go.Proofs.YtjdjncfpcbeedaaDoor
