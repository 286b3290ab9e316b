/- The reference on stamps: what InstantOf and StampOf compute. -/
import Derived.Test.YtegnjiecninlaaaDoorStamp
import Derived.Test.YtegnjiecninlaaaDoorTerr
import Derived.Test.YtegnjiecninlaaaDoorIsTime
namespace Go.Proofs.YtegnjiecninlaaaDoor
open Go.RowKit

theorem instOf_bad (D A : Nat → Int) (a : Option Addr) (len cap : Nat) (day micro : Int) (w : World) (h : Tab w a len D A) (g : ¬ goodT D A len) (he : 0 < badE len) :
    Calls Tryd.prog 34 #[.slice a len cap, .agg #[.int .i64 day, .int .i64 micro]] w fun e w' => e = .returned (.tuple #[.int .i64 0, .int .i64 (badE len)]) ∧ Below w.heap.size w w' := by
  have hb0 : ∀ o, Below w.heap.size w (w.alloc o) := fun o => (Below.refl _ _).alloc (Nat.le_refl _) _
  have HV := Lib.hid (fun o => terr_bad D A a len cap (w.alloc o) (h.below (hb0 o)) g)
  clear h g
  generalize badE len = be at *
  go_enter Tryd.func34, Tryd.ntmps34
  go_wp2_with fail
  refine (HV.out _).mono ?_; rintro e w1 ⟨rfl, rfl⟩
  go_wp2
  go_ret2
  exact ⟨rfl, hb0 _⟩

/-- What InstantOf reckons. -/
theorem instOf_eq (D A : Nat → Int) (len : Nat) (day micro : Int) : day * 86400000000 + micro + ofTo D A day len * 1000000 = instF D A len day micro := by unfold instF startF; omega

set_option maxHeartbeats 1000000 in
theorem instOf_good (D A : Nat → Int) (a : Option Addr) (len cap : Nat) (day micro : Int) (w : World) (h : Tab w a len D A) (g : goodT D A len) :
    Calls Tryd.prog 34 #[.slice a len cap, .agg #[.int .i64 day, .int .i64 micro]] w fun e w' => ((instOk D A len day micro ∧ e = .returned (.tuple #[.int .i64 (instF D A len day micro), .int .i64 0])) ∨ (¬ instOk D A len day micro ∧ e = .returned (.tuple #[.int .i64 0, .int .i64 3]))) ∧ Below w.heap.size w w' := by
  have hb0 : ∀ o, Below w.heap.size w (w.alloc o) := fun o => (Below.refl _ _).alloc (Nat.le_refl _) _
  have HV := Lib.hid (fun o => terr_good D A a len cap (w.alloc o) (h.below (hb0 o)) g)
  have HA := Lib.hid (fun d o => aheadOn_any D A d a len cap (w.alloc o) (h.below (hb0 o)) g)
  have hsm := goodT_small g
  clear h g
  by_cases c1 : 4000000 < day
  · have hno : ¬ instOk D A len day micro := fun h => by have := h.2.1; omega
    have HN := Lib.hid hno
    clear hno hsm
    go_enter Tryd.func34, Tryd.ntmps34
    go_wp2_with fail
    refine (HV.out _).mono ?_; rintro e w1 ⟨rfl, rfl⟩
    go_wp2
    go_ret2
    exact ⟨Or.inr ⟨HN.out, rfl⟩, hb0 _⟩
  by_cases c2 : day < -4000000
  · have hno : ¬ instOk D A len day micro := fun h => by have := h.1; omega
    have HN := Lib.hid hno
    clear hno hsm
    go_enter Tryd.func34, Tryd.ntmps34
    go_wp2_with fail
    refine (HV.out _).mono ?_; rintro e w1 ⟨rfl, rfl⟩
    go_wp2
    go_ret2
    exact ⟨Or.inr ⟨HN.out, rfl⟩, hb0 _⟩
  have o1 := ofTo_bd (D := D) (day := day) hsm
  have o2 := ofTo_bd (D := D) (day := day + 1) hsm
  clear hsm
  have hlen : lengthF D A len day = 86400000000 + (ofTo D A (day + 1) len - ofTo D A day len) * 1000000 := rfl
  have hinst := instOf_eq D A len day micro
  by_cases c3 : micro < 0
  · have hno : ¬ instOk D A len day micro := fun h => by have := h.2.2.1; omega
    have HN := Lib.hid hno
    clear hno hlen hinst
    go_enter Tryd.func34, Tryd.ntmps34
    go_wp2_with fail
    refine (HV.out _).mono ?_; rintro e w1 ⟨rfl, rfl⟩
    go_wp2_with fail
    refine (HA.out day _).mono ?_; rintro e w1 ⟨rfl, rfl⟩
    go_wp2_with fail
    refine (HA.out (day + 1) _).mono ?_; rintro e w1 ⟨rfl, rfl⟩
    go_wp2
    go_ret2
    exact ⟨Or.inr ⟨HN.out, rfl⟩, hb0 _⟩
  by_cases c4 : lengthF D A len day ≤ micro
  · have hno : ¬ instOk D A len day micro := fun h => by have := h.2.2.2.1; omega
    have HN := Lib.hid hno
    have d4 : 86400000000 + (ofTo D A (day + 1) len - ofTo D A day len) * 1000000 ≤ micro := by omega
    clear hno hlen hinst c4
    go_enter Tryd.func34, Tryd.ntmps34
    go_wp2_with fail
    refine (HV.out _).mono ?_; rintro e w1 ⟨rfl, rfl⟩
    go_wp2_with fail
    refine (HA.out day _).mono ?_; rintro e w1 ⟨rfl, rfl⟩
    go_wp2_with fail
    refine (HA.out (day + 1) _).mono ?_; rintro e w1 ⟨rfl, rfl⟩
    go_wp2
    go_ret2
    exact ⟨Or.inr ⟨HN.out, rfl⟩, hb0 _⟩
  · have d4 : micro < 86400000000 + (ofTo D A (day + 1) len - ofTo D A day len) * 1000000 := by omega
    have HI := Lib.hid hinst
    have hG : (goodB (instF D A len day micro) = true ∧ instOk D A len day micro) ∨ (goodB (instF D A len day micro) = false ∧ ¬ instOk D A len day micro) := by
      cases hg : goodB (instF D A len day micro) with
      | true => exact Or.inl ⟨rfl, by omega, by omega, by omega, by omega, hg⟩
      | false => exact Or.inr ⟨rfl, fun h => by have := h.2.2.2.2; rw [hg] at this; cases this⟩
    clear hlen hinst c4
    rcases hG with ⟨hg, hok⟩ | ⟨hg, hno⟩
    · have HN := Lib.hid hok
      clear hok
      go_enter Tryd.func34, Tryd.ntmps34
      go_wp2_with fail
      refine (HV.out _).mono ?_; rintro e w1 ⟨rfl, rfl⟩
      go_wp2_with fail
      refine (HA.out day _).mono ?_; rintro e w1 ⟨rfl, rfl⟩
      go_wp2_with fail
      refine (HA.out (day + 1) _).mono ?_; rintro e w1 ⟨rfl, rfl⟩
      go_wp2_with fail
      rw [HI.out]
      refine (isTime_any _ _).mono ?_; rintro e w1 ⟨rfl, rfl⟩
      rw [hg]
      go_wp2
      go_ret2
      exact ⟨Or.inl ⟨HN.out, rfl⟩, hb0 _⟩
    · have HN := Lib.hid hno
      clear hno
      go_enter Tryd.func34, Tryd.ntmps34
      go_wp2_with fail
      refine (HV.out _).mono ?_; rintro e w1 ⟨rfl, rfl⟩
      go_wp2_with fail
      refine (HA.out day _).mono ?_; rintro e w1 ⟨rfl, rfl⟩
      go_wp2_with fail
      refine (HA.out (day + 1) _).mono ?_; rintro e w1 ⟨rfl, rfl⟩
      go_wp2_with fail
      rw [HI.out]
      refine (isTime_any _ _).mono ?_; rintro e w1 ⟨rfl, rfl⟩
      rw [hg]
      go_wp2
      go_ret2
      exact ⟨Or.inr ⟨HN.out, rfl⟩, hb0 _⟩

/-! ### StampOf -/
theorem stampOf_bad (D A : Nat → Int) (a : Option Addr) (len cap : Nat) (t : Int) (w : World) (h : Tab w a len D A) (g : ¬ goodT D A len) (he : 0 < badE len) :
    Calls Tryd.prog 36 #[.slice a len cap, .int .i64 t] w fun e w' => e = .returned (.tuple #[.agg #[.int .i64 0, .int .i64 0], .int .i64 (badE len)]) ∧ Below w.heap.size w w' := by
  have hb0 : ∀ o, Below w.heap.size w (w.alloc o) := fun o => (Below.refl _ _).alloc (Nat.le_refl _) _
  have HV := Lib.hid (fun o => terr_bad D A a len cap (w.alloc o) (h.below (hb0 o)) g)
  clear h g
  generalize badE len = be at *
  go_enter Tryd.func36, Tryd.ntmps36
  go_wp2_with fail
  refine (HV.out _).mono ?_; rintro e w1 ⟨rfl, hw⟩
  obtain ⟨q0, q1, f0, f1⟩ := freshT (w := w) (w1 := w1) (by rw [← hw]; exact Below.refl _ _)
  have hbw : Below w.heap.size w w1 := by rw [← hw]; exact hb0 _
  have HB := Lib.hid hbw
  clear hbw hb0 HV hw
  go_wp2
  refine bodyPost_ret (v := .tuple #[.agg #[.int .i64 0, .int .i64 0], .int .i64 be]) ?_ rfl ⟨rfl, ?_⟩
  · simp [results, Tryd.results36, go_sem, q0, q1]
  · exact (HB.out.setCell (Nat.le_refl _) _).setCell (Nat.le_refl _) _

theorem stampOf_late (D A : Nat → Int) (a : Option Addr) (len cap : Nat) (t : Int) (w : World) (h : Tab w a len D A) (g : goodT D A len) (ht : goodB t = false) :
    Calls Tryd.prog 36 #[.slice a len cap, .int .i64 t] w fun e w' => e = .returned (.tuple #[.agg #[.int .i64 0, .int .i64 0], .int .i64 3]) ∧ Below w.heap.size w w' := by
  have hb0 : ∀ o, Below w.heap.size w (w.alloc o) := fun o => (Below.refl _ _).alloc (Nat.le_refl _) _
  have HV := Lib.hid (fun o => terr_good D A a len cap (w.alloc o) (h.below (hb0 o)) g)
  clear h g
  go_enter Tryd.func36, Tryd.ntmps36
  go_wp2_with fail
  refine (HV.out _).mono ?_; rintro e w1 ⟨rfl, hw⟩
  obtain ⟨q0, q1, f0, f1⟩ := freshT (w := w) (w1 := w1) (by rw [← hw]; exact Below.refl _ _)
  have hbw : Below w.heap.size w w1 := by rw [← hw]; exact hb0 _
  have HB := Lib.hid hbw
  clear hbw hb0 HV hw
  go_wp2_with fail
  refine (isTime_any t _).mono ?_; rintro e w2 ⟨rfl, rfl⟩
  rw [ht]
  go_wp2
  refine bodyPost_ret (v := .tuple #[.agg #[.int .i64 0, .int .i64 0], .int .i64 3]) ?_ rfl ⟨rfl, ?_⟩
  · simp [results, Tryd.results36, go_sem, q0, q1]
  · exact (HB.out.setCell (Nat.le_refl _) _).setCell (Nat.le_refl _) _

set_option maxHeartbeats 1000000 in
theorem stampOf_ok (D A : Nat → Int) (a : Option Addr) (len cap : Nat) (t d : Int) (w : World) (h : Tab w a len D A) (g : goodT D A len) (ht : goodB t = true) (h1 : startF D A len d ≤ t) (h2 : t < startF D A len (d + 1)) :
    Calls Tryd.prog 36 #[.slice a len cap, .int .i64 t] w fun e w' => e = .returned (.tuple #[.agg #[.int .i64 d, .int .i64 (t - startF D A len d)], .int .i64 0]) ∧ Below w.heap.size w w' := by
  have hb0 : ∀ o, Below w.heap.size w (w.alloc o) := fun o => (Below.refl _ _).alloc (Nat.le_refl _) _
  have HV := Lib.hid (fun o => terr_good D A a len cap (w.alloc o) (h.below (hb0 o)) g)
  have HT := Lib.hid h
  have hsm := goodT_small g
  have htb : -300000000000000000 ≤ t ∧ t ≤ 300000000000000000 := by unfold goodB at ht; simpa using ht
  have htd := tdiv_bd t
  have ho := fun x => ofTo_bd (D := D) (day := x) hsm
  have hd1 : t.tdiv 86400000000 - 3 ≤ d ∧ d ≤ 3600000 := by
    have a1 := ho (d + 1)
    have a2 := ho d
    unfold startF at h1 h2
    omega
  have HO := Lib.hid ho
  have HH1 := Lib.hid h1
  have HH2 := Lib.hid h2
  have HA := Lib.hid (fun W d' (hT : Tab W a len D A) => aheadOn_any D A d' a len cap W hT g)
  have HG := Lib.hid g
  clear h g hsm ho h1 h2
  go_enter Tryd.func36, Tryd.ntmps36
  go_wp2_with fail
  refine (HV.out _).mono ?_; rintro e w1 ⟨rfl, hw⟩
  obtain ⟨q0, q1, f0, f1⟩ := freshT (w := w) (w1 := w1) (by rw [← hw]; exact Below.refl _ _)
  have hbw : Below w.heap.size w w1 := by rw [← hw]; exact hb0 _
  have HB := Lib.hid hbw
  have HT1 := Lib.hid (HT.out.below hbw)
  clear hbw hb0 HV hw HT
  go_wp2_with fail
  refine (isTime_any t _).mono ?_; rintro e w2 ⟨rfl, rfl⟩
  rw [ht]
  go_wp2
  go_loopw [8] (fun x wr => ∃ v : Int, x = .int .i64 v ∧ t.tdiv 86400000000 - 3 ≤ v ∧ v ≤ d ∧ w1 = wr) (fun x _ => (d + 1 - intOf x).toNat)
  case atStart => exact ⟨t.tdiv 86400000000 - 3, rfl, by omega, hd1.1, rfl⟩
  case round =>
    obtain ⟨v, rfl, v1, v2, rfl⟩ := hrel
    have ov1 := HO.out v
    have ov2 := HO.out (v + 1)
    by_cases c : v = d
    · subst c
      have e1 : startF D A len v = v * 86400000000 + ofTo D A v len * 1000000 := rfl
      have e2 : startF D A len (v + 1) = (v + 1) * 86400000000 + ofTo D A (v + 1) len * 1000000 := rfl
      have k1 := HH1.out
      have k2 := HH2.out
      rw [e1] at k1
      rw [e2] at k2
      have HE := Lib.hid e1
      clear e1 e2
      go_wp2_with fail
      refine (HA.out _ v HT1.out).mono ?_; rintro e w2 ⟨rfl, rfl⟩
      go_wp2_with fail
      refine (HA.out _ (v + 1) HT1.out).mono ?_; rintro e w2 ⟨rfl, rfl⟩
      go_wp2
      refine bodyPost_ret (v := .tuple #[.agg #[.int .i64 v, .int .i64 (t - (v * 86400000000 + ofTo D A v len * 1000000))], .int .i64 0]) ?_ rfl ⟨by rw [HE.out], ?_⟩
      · simp [results, Tryd.results36, go_sem, q0, q1]
      · exact (HB.out.setCell (Nat.le_refl _) _).setCell (Nat.le_refl _) _
    · have e2 : startF D A len (v + 1) = (v + 1) * 86400000000 + ofTo D A (v + 1) len * 1000000 := rfl
      have hle := start_le HG.out.2 (show v + 1 ≤ d by omega)
      have k2 : (v + 1) * 86400000000 + ofTo D A (v + 1) len * 1000000 ≤ t := by have := HH1.out; omega
      have k1 : v * 86400000000 + ofTo D A v len * 1000000 ≤ t := by
        have := start_le HG.out.2 (show v ≤ v + 1 by omega)
        have e1 : startF D A len v = v * 86400000000 + ofTo D A v len * 1000000 := rfl
        omega
      clear e2 hle
      go_wp2_with fail
      refine (HA.out _ v HT1.out).mono ?_; rintro e w2 ⟨rfl, rfl⟩
      go_wp2_with fail
      refine (HA.out _ (v + 1) HT1.out).mono ?_; rintro e w2 ⟨rfl, rfl⟩
      go_wp2
      go_roundw
      case rel => exact ⟨v + 1, rfl, by omega, by omega, by simp⟩
      case measure => simp [intOf]; omega
end Go.Proofs.YtegnjiecninlaaaDoor
