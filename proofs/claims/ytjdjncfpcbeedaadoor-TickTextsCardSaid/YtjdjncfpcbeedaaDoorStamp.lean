/- The stamp of an instant: what tick.Stamped computes. -/
import Derived.Test.YtjdjncfpcbeedaaDoorInst
namespace Go.Proofs.YtjdjncfpcbeedaaDoor
open Go.RowKit

/-- The two cells of a stamp that a function has made ahead of a call. -/
theorem freshT {w w1 : World} {T : TypeId} (hb : Below (w.alloc (Obj.cells #[Value.int IntKind.i64 0, Value.int IntKind.i64 0] T)).heap.size (w.alloc (Obj.cells #[Value.int IntKind.i64 0, Value.int IntKind.i64 0] T)) w1) :
    w1.cell? ⟨w.heap.size, 0, none⟩ = some (.int .i64 0) ∧ w1.cell? ⟨w.heap.size, 1, none⟩ = some (.int .i64 0) ∧ w1.frozen? ⟨w.heap.size, 0, none⟩ = false ∧ w1.frozen? ⟨w.heap.size, 1, none⟩ = false := by
  refine ⟨?_, ?_, ?_, ?_⟩
  · rw [hb.cell (p := ⟨w.heap.size, 0, none⟩) (by simp)]; simp
  · rw [hb.cell (p := ⟨w.heap.size, 1, none⟩) (by simp)]; simp
  · rw [hb.frozen (p := ⟨w.heap.size, 0, none⟩) (by simp)]; simp
  · rw [hb.frozen (p := ⟨w.heap.size, 1, none⟩) (by simp)]; simp

theorem stamped_bad (ad : Nat → Addr) (D A : Nat → Int) (a : Option Addr) (len cap : Nat) (t : Int) (w : World) (he : Errs w ad [1, 2, 3]) (h : Tab w a len D A) (g : ¬ goodT D A len) :
    Calls Tryd.prog 47 #[.slice a len cap, .int .i64 t] w fun e w' => e = .returned (.tuple #[.agg #[.int .i64 0, .int .i64 0], badV ad len]) ∧ Below w.heap.size w w' := by
  have hb0 : ∀ o, Below w.heap.size w (w.alloc o) := fun o => (Below.refl _ _).alloc (Nat.le_refl _) _
  have V := fun o => valid_bad ad D A a len cap (w.alloc o) (he.below (hb0 o)) (h.below (hb0 o)) g
  have HV := Lib.hid V
  clear V
  unfold badV at *
  go_enter Tryd.func47, Tryd.ntmps47
  go_wp2_with fail
  refine (HV.out _).mono ?_; rintro e w1 ⟨rfl, hb1⟩
  obtain ⟨q0, q1, f0, f1⟩ := freshT hb1
  have hbw := below_step (hb0 _) hb1
  have HB := Lib.hid hbw
  clear hbw hb1 hb0 HV
  go_wp2
  refine bodyPost_ret (v := .tuple #[.agg #[.int .i64 0, .int .i64 0], .iface 225 (.pointer (some (badA ad len)))]) ?_ rfl ⟨rfl, ?_⟩
  · simp [results, Tryd.results47, go_sem, q0, q1]
  · exact (HB.out.setCell (Nat.le_refl _) _).setCell (Nat.le_refl _) _

/-- What holds all through the return of a fault: the sentinel and the two fresh cells. -/
def LateS (w : World) (g : Nat) (v : Value) (w' : World) : Prop :=
  g < w.heap.size ∧ w'.cell? ⟨g, 0, none⟩ = some v ∧ w'.cell? ⟨w.heap.size, 0, none⟩ = some (.int .i64 0) ∧ w'.cell? ⟨w.heap.size, 1, none⟩ = some (.int .i64 0) ∧ w'.frozen? ⟨w.heap.size, 0, none⟩ = false ∧ w'.frozen? ⟨w.heap.size, 1, none⟩ = false ∧ Below w.heap.size w w'
theorem LateS.drew {w : World} {g : Nat} {v : Value} {w' : World} (h : LateS w g v w') : LateS w g v w'.drew :=
  ⟨h.1, h.2.1, h.2.2.1, h.2.2.2.1, h.2.2.2.2.1, h.2.2.2.2.2.1, h.2.2.2.2.2.2.drew⟩
theorem LateS.store {w : World} {g : Nat} {v : Value} {w' : World} (h : LateS w g v w') : LateS w g v ((w'.setCell ⟨w.heap.size, 0, none⟩ (.int .i64 0)).setCell ⟨w.heap.size, 1, none⟩ (.int .i64 0)) := by
  obtain ⟨h1, h2, h3, h4, h5, h6, h7⟩ := h
  have e1 : (w'.setCell ⟨w.heap.size, 0, none⟩ (.int .i64 0)).cell? ⟨w.heap.size, 0, none⟩ = some (.int .i64 0) := World.cell?_setCell_same _ _ _ h3
  have e2 : (w'.setCell ⟨w.heap.size, 0, none⟩ (.int .i64 0)).cell? ⟨w.heap.size, 1, none⟩ = some (.int .i64 0) := by rw [World.cell?_setCell_other _ _ _ _ (by simp)]; exact h4
  refine ⟨h1, ?_, ?_, World.cell?_setCell_same _ _ _ e2, ?_, ?_, (h7.setCell (Nat.le_refl _) _).setCell (Nat.le_refl _) _⟩
  · rw [World.cell?_setCell_other _ _ _ _ (by intro e; injection e; omega), World.cell?_setCell_other _ _ _ _ (by intro e; injection e; omega)]; exact h2
  · rw [World.cell?_setCell_other _ _ _ _ (by simp)]; exact e1
  · rw [World.frozen?_setCell, World.frozen?_setCell]; exact h5
  · rw [World.frozen?_setCell, World.frozen?_setCell]; exact h6

theorem stamped_late (ad : Nat → Addr) (D A : Nat → Int) (a : Option Addr) (len cap : Nat) (t : Int) (w : World) (he : Errs w ad [1, 2, 3]) (h : Tab w a len D A) (g : goodT D A len) (ht : goodB t = false) :
    Calls Tryd.prog 47 #[.slice a len cap, .int .i64 t] w fun e w' => e = .returned (.tuple #[.agg #[.int .i64 0, .int .i64 0], errV ad 2]) ∧ Below w.heap.size w w' := by
  have hb0 : ∀ o, Below w.heap.size w (w.alloc o) := fun o => (Below.refl _ _).alloc (Nat.le_refl _) _
  have V := fun o => valid_good ad D A a len cap (w.alloc o) (he.below (hb0 o)) (h.below (hb0 o)) g
  have HV := Lib.hid V
  have HE := Lib.hid he
  clear V he
  unfold errV
  go_enter Tryd.func47, Tryd.ntmps47
  go_wp2_with fail
  refine (HV.out _).mono ?_; rintro e w1 ⟨rfl, hb1⟩
  obtain ⟨q0, q1, f0, f1⟩ := freshT hb1
  have hbw := below_step (hb0 _) hb1
  have g2 : w1.cell? ⟨2, 0, none⟩ = some (.iface 225 (.pointer (some (ad 2)))) := (HE.out.below hbw) 2 (by decide)
  have HB := Lib.hid hbw
  clear hbw hb1 hb0 HV
  go_wp2_with fail
  refine (good_any _ _).mono ?_; rintro e w4 ⟨rfl, rfl⟩
  rw [ht]
  go_wp2
  have hS : LateS w 2 (.iface 225 (.pointer (some (ad 2)))) w1 := ⟨cell_lt (HE.out 2 (by decide)), g2, q0, q1, f0, f1, HB.out⟩
  have HS := Lib.hid hS
  clear hS
  go_region_held3 (fun w' => w'.cell? ⟨2, 0, none⟩ = some (.iface 225 (.pointer (some (ad 2)))) ∧ w'.cell? ⟨w.heap.size, 0, none⟩ = some (.int .i64 0) ∧ w'.cell? ⟨w.heap.size, 1, none⟩ = some (.int .i64 0) ∧ w'.frozen? ⟨w.heap.size, 0, none⟩ = false ∧ w'.frozen? ⟨w.heap.size, 1, none⟩ = false ∧ Below w.heap.size w w')
    (first | (exact HS.out.2) | (exact HS.out.drew.2) | (exact HS.out.store.2) | (exact HS.out.drew.store.2) | (exact HS.out.store.drew.2) | assumption) (fail)
  clear HE
  go_wp2
  refine bodyPost_ret (v := .tuple #[.agg #[.int .i64 0, .int .i64 0], .iface 225 (.pointer (some (ad 2)))]) ?_ rfl ⟨rfl, ?_⟩
  · simp [results, Tryd.results47, go_sem, q0, q1]
  · exact HS.out.store.drew.2.2.2.2.2.2

theorem tdiv_bd (t : Int) : t - 86400000000 < t.tdiv 86400000000 * 86400000000 ∧ t.tdiv 86400000000 * 86400000000 < t + 86400000000 := by
  have h1 := Int.mul_tdiv_add_tmod t 86400000000
  have h2 := Int.tmod_lt_of_pos t (b := 86400000000) (by decide)
  have h3 : -86400000000 < t.tmod 86400000000 := by
    rcases Int.le_total 0 t with h | h
    · have := Int.tmod_nonneg 86400000000 h; omega
    · have h4 := Int.tmod_lt_of_pos (-t) (b := 86400000000) (by decide)
      rw [Int.neg_tmod] at h4; omega
  omega

set_option maxHeartbeats 1000000 in
theorem stamped_ok (ad : Nat → Addr) (D A : Nat → Int) (a : Option Addr) (len cap : Nat) (t : Int) (w : World) (he : Errs w ad [1, 2, 3]) (h : Tab w a len D A) (g : goodT D A len) (ht : goodB t = true) :
    Calls Tryd.prog 47 #[.slice a len cap, .int .i64 t] w fun e w' => (∃ d, e = .returned (.tuple #[.agg #[.int .i64 d, .int .i64 (t - startF D A len d)], .nilIface]) ∧ startF D A len d ≤ t ∧ t < startF D A len (d + 1) ∧ -4000000 ≤ d ∧ d ≤ 4000000) ∧ Below w.heap.size w w' := by
  have hb0 : ∀ o, Below w.heap.size w (w.alloc o) := fun o => (Below.refl _ _).alloc (Nat.le_refl _) _
  have V := fun o => valid_good ad D A a len cap (w.alloc o) (he.below (hb0 o)) (h.below (hb0 o)) g
  have HV := Lib.hid V
  have hsm := goodT_small g
  have hl : len ≤ 1000000 := by have := g.1; omega
  have hst : ∀ d, d * 86400000000 - 1000000000 ≤ startF D A len d ∧ startF D A len d ≤ d * 86400000000 + 1000000000 := by
    intro d
    have := ofTo_bd (D := D) (day := d) hsm
    unfold startF; omega
  have HST := Lib.hid hst
  have S := fun d W h1 h2 (hT : Tab W a len D A) => start_any D A d a len cap hl h1 h2 hsm W hT
  have HS := Lib.hid S
  have HT := Lib.hid h
  have htb : -300000000000000000 ≤ t ∧ t ≤ 300000000000000000 := by unfold goodB at ht; simpa using ht
  have htd := tdiv_bd t
  clear V S h he g hsm hst
  go_enter Tryd.func47, Tryd.ntmps47
  go_wp2_with fail
  refine (HV.out _).mono ?_; rintro e w1 ⟨rfl, hb1⟩
  obtain ⟨q0, q1, f0, f1⟩ := freshT hb1
  have hbw := below_step (hb0 _) hb1
  have hsz : w.heap.size < w1.heap.size := by have := hb1.size; simp at this; omega
  have HT1 := Lib.hid (HT.out.below hbw)
  have HB := Lib.hid hbw
  clear hbw hb1 hb0 HV HT
  go_wp2_with fail
  refine (good_any _ _).mono ?_; rintro e w4 ⟨rfl, rfl⟩
  rw [ht]
  go_wp2
  go_loopw [7] (fun v wr => ∃ d : Int, v = .int .i64 d ∧ t.tdiv 86400000000 - 2 ≤ d ∧ d ≤ t.tdiv 86400000000 + 2 ∧ t < startF D A len (d + 1) ∧ Below w1.heap.size w1 wr) (fun v _ => (intOf v - (t.tdiv 86400000000 - 3)).toNat)
  case atStart =>
    refine ⟨t.tdiv 86400000000 + 2, rfl, by omega, by omega, ?_, Below.refl _ _⟩
    · have := (HST.out (t.tdiv 86400000000 + 2 + 1)).1; omega
  case round =>
    obtain ⟨d, rfl, d1, d2, d3, hb⟩ := hrel
    have hsw := hb.size
    have HT2 := Lib.hid (HT1.out.below hb)
    have hd := HST.out d
    by_cases hgt : t < startF D A len d
    · have hd1 : t.tdiv 86400000000 - 1 ≤ d := by omega
      go_wp2_with fail
      refine (HS.out _ _ (by omega) (by omega) HT2.out).mono ?_; rintro e w2 ⟨rfl, hb2⟩
      have HB2 := Lib.hid (below_step hb hb2)
      clear hb2
      go_wp2
      go_roundw
      case rel => exact ⟨d - 1, rfl, by omega, by omega, by rw [show d - 1 + 1 = d by omega]; exact hgt, HB2.out⟩
      case measure => simp [intOf]; omega
    · have hle : startF D A len d ≤ t := by omega
      go_wp2_with fail
      refine (HS.out _ _ (by omega) (by omega) HT2.out).mono ?_; rintro e w2 ⟨rfl, hb2⟩
      have hb12 := below_step hb hb2
      clear hb2 hb
      go_wp2_with fail
      refine (HS.out _ _ (by omega) (by omega) (HT1.out.below hb12)).mono ?_; rintro e w3 ⟨rfl, hb3⟩
      have hb13 := below_step hb12 hb3
      have r0 : w3.cell? ⟨w.heap.size, 0, none⟩ = some (.int .i64 0) := by rw [hb13.cell (p := ⟨w.heap.size, 0, none⟩) hsz]; exact q0
      have r1 : w3.cell? ⟨w.heap.size, 1, none⟩ = some (.int .i64 0) := by rw [hb13.cell (p := ⟨w.heap.size, 1, none⟩) hsz]; exact q1
      have u0 : w3.frozen? ⟨w.heap.size, 0, none⟩ = false := by rw [hb13.frozen (p := ⟨w.heap.size, 0, none⟩) hsz]; exact f0
      have u1 : w3.frozen? ⟨w.heap.size, 1, none⟩ = false := by rw [hb13.frozen (p := ⟨w.heap.size, 1, none⟩) hsz]; exact f1
      have HB3 := Lib.hid (below_step HB.out hb13)
      clear hb12 hb3 hb13 q0 q1 f0 f1
      go_wp2
      refine bodyPost_ret (v := .tuple #[.agg #[.int .i64 d, .int .i64 (t - startF D A len d)], .nilIface]) ?_ rfl ⟨⟨d, rfl, hle, d3, by omega, by omega⟩, ?_⟩
      · simp [results, Tryd.results47, go_sem, r0, r1]
      · exact (HB3.out.setCell (Nat.le_refl _) _).setCell (Nat.le_refl _) _
end Go.Proofs.YtjdjncfpcbeedaaDoor
