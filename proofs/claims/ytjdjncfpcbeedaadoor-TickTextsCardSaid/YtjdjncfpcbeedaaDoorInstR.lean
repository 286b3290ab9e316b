/- The reference on stamps: what InstantOf computes (XStampR's first part). -/
import Derived.Test.YtjdjncfpcbeedaaDoorStamp
import Derived.Test.YtjdjncfpcbeedaaDoorTerr
import Derived.Test.YtjdjncfpcbeedaaDoorIsTime
namespace Go.Proofs.YtjdjncfpcbeedaaDoor
open Go.RowKit

theorem instOf_bad (D A : Nat → Int) (a : Option Addr) (len cap : Nat) (day micro : Int) (w : World) (h : Tab w a len D A) (g : ¬ goodT D A len) (he : 0 < badE len) :
    Calls Tryd.prog 52 #[.slice a len cap, .agg #[.int .i64 day, .int .i64 micro]] w fun e w' => e = .returned (.tuple #[.int .i64 0, .int .i64 (badE len)]) ∧ Below w.heap.size w w' := by
  have hb0 : ∀ o, Below w.heap.size w (w.alloc o) := fun o => (Below.refl _ _).alloc (Nat.le_refl _) _
  have HV := Lib.hid (fun o => terr_bad D A a len cap (w.alloc o) (h.below (hb0 o)) g)
  clear h g
  generalize badE len = be at *
  go_enter Tryd.func52, Tryd.ntmps52
  go_wp2_with fail
  refine (HV.out _).mono ?_; rintro e w1 ⟨rfl, rfl⟩
  go_wp2
  go_ret2
  exact ⟨rfl, hb0 _⟩

/-- What InstantOf reckons. -/
theorem instOf_eq (D A : Nat → Int) (len : Nat) (day micro : Int) : day * 86400000000 + micro + ofTo D A day len * 1000000 = instF D A len day micro := by unfold instF startF; omega

set_option maxHeartbeats 1000000 in
theorem instOf_good (D A : Nat → Int) (a : Option Addr) (len cap : Nat) (day micro : Int) (w : World) (h : Tab w a len D A) (g : goodT D A len) :
    Calls Tryd.prog 52 #[.slice a len cap, .agg #[.int .i64 day, .int .i64 micro]] w fun e w' => ((instOk D A len day micro ∧ e = .returned (.tuple #[.int .i64 (instF D A len day micro), .int .i64 0])) ∨ (¬ instOk D A len day micro ∧ e = .returned (.tuple #[.int .i64 0, .int .i64 3]))) ∧ Below w.heap.size w w' := by
  have hb0 : ∀ o, Below w.heap.size w (w.alloc o) := fun o => (Below.refl _ _).alloc (Nat.le_refl _) _
  have HV := Lib.hid (fun o => terr_good D A a len cap (w.alloc o) (h.below (hb0 o)) g)
  have HA := Lib.hid (fun d o => aheadOn_any D A d a len cap (w.alloc o) (h.below (hb0 o)) g)
  have hsm := goodT_small g
  clear h g
  by_cases c1 : 4000000 < day
  · have hno : ¬ instOk D A len day micro := fun h => by have := h.2.1; omega
    have HN := Lib.hid hno
    clear hno hsm
    go_enter Tryd.func52, Tryd.ntmps52
    go_wp2_with fail
    refine (HV.out _).mono ?_; rintro e w1 ⟨rfl, rfl⟩
    go_wp2
    go_ret2
    exact ⟨Or.inr ⟨HN.out, rfl⟩, hb0 _⟩
  by_cases c2 : day < -4000000
  · have hno : ¬ instOk D A len day micro := fun h => by have := h.1; omega
    have HN := Lib.hid hno
    clear hno hsm
    go_enter Tryd.func52, Tryd.ntmps52
    go_wp2_with fail
    refine (HV.out _).mono ?_; rintro e w1 ⟨rfl, rfl⟩
    go_wp2
    go_ret2
    exact ⟨Or.inr ⟨HN.out, rfl⟩, hb0 _⟩
  have o1 := ofTo_bd (D := D) (day := day) hsm
  have o2 := ofTo_bd (D := D) (day := day + 1) hsm
  clear hsm
  have hlen : lengthF D A len day = 86400000000 + (ofTo D A (day + 1) len - ofTo D A day len) * 1000000 := rfl
  have hinst := instOf_eq D A len day micro
  by_cases c3 : micro < 0
  · have hno : ¬ instOk D A len day micro := fun h => by have := h.2.2.1; omega
    have HN := Lib.hid hno
    clear hno hlen hinst
    go_enter Tryd.func52, Tryd.ntmps52
    go_wp2_with fail
    refine (HV.out _).mono ?_; rintro e w1 ⟨rfl, rfl⟩
    go_wp2_with fail
    refine (HA.out day _).mono ?_; rintro e w1 ⟨rfl, rfl⟩
    go_wp2_with fail
    refine (HA.out (day + 1) _).mono ?_; rintro e w1 ⟨rfl, rfl⟩
    go_wp2
    go_ret2
    exact ⟨Or.inr ⟨HN.out, rfl⟩, hb0 _⟩
  by_cases c4 : lengthF D A len day ≤ micro
  · have hno : ¬ instOk D A len day micro := fun h => by have := h.2.2.2.1; omega
    have HN := Lib.hid hno
    have d4 : 86400000000 + (ofTo D A (day + 1) len - ofTo D A day len) * 1000000 ≤ micro := by omega
    clear hno hlen hinst c4
    go_enter Tryd.func52, Tryd.ntmps52
    go_wp2_with fail
    refine (HV.out _).mono ?_; rintro e w1 ⟨rfl, rfl⟩
    go_wp2_with fail
    refine (HA.out day _).mono ?_; rintro e w1 ⟨rfl, rfl⟩
    go_wp2_with fail
    refine (HA.out (day + 1) _).mono ?_; rintro e w1 ⟨rfl, rfl⟩
    go_wp2
    go_ret2
    exact ⟨Or.inr ⟨HN.out, rfl⟩, hb0 _⟩
  · have d4 : micro < 86400000000 + (ofTo D A (day + 1) len - ofTo D A day len) * 1000000 := by omega
    have HI := Lib.hid hinst
    have hG : (goodB (instF D A len day micro) = true ∧ instOk D A len day micro) ∨ (goodB (instF D A len day micro) = false ∧ ¬ instOk D A len day micro) := by
      cases hg : goodB (instF D A len day micro) with
      | true => exact Or.inl ⟨rfl, by omega, by omega, by omega, by omega, hg⟩
      | false => exact Or.inr ⟨rfl, fun h => by have := h.2.2.2.2; rw [hg] at this; cases this⟩
    clear hlen hinst c4
    rcases hG with ⟨hg, hok⟩ | ⟨hg, hno⟩
    · have HN := Lib.hid hok
      clear hok
      go_enter Tryd.func52, Tryd.ntmps52
      go_wp2_with fail
      refine (HV.out _).mono ?_; rintro e w1 ⟨rfl, rfl⟩
      go_wp2_with fail
      refine (HA.out day _).mono ?_; rintro e w1 ⟨rfl, rfl⟩
      go_wp2_with fail
      refine (HA.out (day + 1) _).mono ?_; rintro e w1 ⟨rfl, rfl⟩
      go_wp2_with fail
      rw [HI.out]
      refine (isTime_any _ _).mono ?_; rintro e w1 ⟨rfl, rfl⟩
      rw [hg]
      go_wp2
      go_ret2
      exact ⟨Or.inl ⟨HN.out, rfl⟩, hb0 _⟩
    · have HN := Lib.hid hno
      clear hno
      go_enter Tryd.func52, Tryd.ntmps52
      go_wp2_with fail
      refine (HV.out _).mono ?_; rintro e w1 ⟨rfl, rfl⟩
      go_wp2_with fail
      refine (HA.out day _).mono ?_; rintro e w1 ⟨rfl, rfl⟩
      go_wp2_with fail
      refine (HA.out (day + 1) _).mono ?_; rintro e w1 ⟨rfl, rfl⟩
      go_wp2_with fail
      rw [HI.out]
      refine (isTime_any _ _).mono ?_; rintro e w1 ⟨rfl, rfl⟩
      rw [hg]
      go_wp2
      go_ret2
      exact ⟨Or.inr ⟨HN.out, rfl⟩, hb0 _⟩

end Go.Proofs.YtjdjncfpcbeedaaDoor
