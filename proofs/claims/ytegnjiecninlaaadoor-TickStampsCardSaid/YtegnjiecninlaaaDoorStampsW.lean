/- The law TickStamps: its walk. -/
import Derived.Test.YtegnjiecninlaaaDoorStampR
import Derived.Test.YtegnjiecninlaaaDoorInstNo
import Derived.Test.YtegnjiecninlaaaDoorLive
import Derived.Test.YtegnjiecninlaaaDoorCoded1
namespace Go.Proofs.YtegnjiecninlaaaDoor
open Go.RowKit

/-- The two cells of a stamp that was laid ahead of a call. -/
theorem freshW {w w1 : World} {T : TypeId} {x y : Value} (hb : Below (w.alloc (Obj.cells #[x, y] T)).heap.size (w.alloc (Obj.cells #[x, y] T)) w1) :
    w1.cell? ⟨w.heap.size, 0, none⟩ = some x ∧ w1.cell? ⟨w.heap.size, 1, none⟩ = some y ∧ w.heap.size < w1.heap.size := by
  refine ⟨?_, ?_, ?_⟩
  · rw [hb.cell (p := ⟨w.heap.size, 0, none⟩) (by simp)]; simp
  · rw [hb.cell (p := ⟨w.heap.size, 1, none⟩) (by simp)]; simp
  · have := hb.size; simp at this; omega
theorem badE_pos (len : Nat) : 0 < badE len := by unfold badE; split <;> decide
theorem coded_bad (ad : Nat → Addr) (len : Nat) (W : World) (hW : Sents W ad) :
    Calls Tryd.prog 15 #[badV ad len, .int .i64 (badE len)] W fun e' w' => e' = .returned (.bool true) ∧ Below W.heap.size W w' := by
  unfold badV badA badE
  by_cases hl : 60 < len
  · rw [if_pos hl, if_pos hl]; exact coded1_err ad 1 2 (by decide) (by decide) W hW
  · rw [if_neg hl, if_neg hl]; exact coded1_err ad 3 4 (by decide) (by decide) W hW

/-- The program's instant and the reference's, of any table and stamp. -/
theorem inst_pair (ad : Nat → Addr) (D A : Nat → Int) (a : Option Addr) (len cap : Nat) (day micro : Int) : ∃ (x : Int) (ev : Value) (e : Int),
    (∀ W, Sents W ad → Tab W a len D A → Calls Tryd.prog 33 #[.slice a len cap, .agg #[.int .i64 day, .int .i64 micro]] W fun e' w' => e' = .returned (.tuple #[.int .i64 x, ev]) ∧ Below W.heap.size W w') ∧
    (∀ W, Tab W a len D A → Calls Tryd.prog 34 #[.slice a len cap, .agg #[.int .i64 day, .int .i64 micro]] W fun e' w' => e' = .returned (.tuple #[.int .i64 x, .int .i64 e]) ∧ Below W.heap.size W w') ∧
    (∀ W, Sents W ad → Calls Tryd.prog 15 #[ev, .int .i64 e] W fun e' w' => e' = .returned (.bool true) ∧ Below W.heap.size W w') := by
  by_cases g : goodT D A len
  · by_cases hi : instOk D A len day micro
    · refine ⟨instF D A len day micro, .nilIface, 0, fun W hW hT => instant_ok ad D A a len cap day micro W (hW.errs _ (by decide)) hT g hi, fun W hT => ?_, fun W _ => coded1_nil W⟩
      refine (instOf_good D A a len cap day micro W hT g).mono ?_
      rintro e w' ⟨⟨_, rfl⟩ | ⟨hn, _⟩, hb⟩
      · exact ⟨rfl, hb⟩
      · exact absurd hi hn
    · refine ⟨0, errV ad 2, 3, fun W hW hT => instant_no ad D A a len cap day micro W (hW.errs _ (by decide)) hT g hi, fun W hT => ?_, fun W hW => coded1_err ad 2 3 (by decide) (by decide) W hW⟩
      refine (instOf_good D A a len cap day micro W hT g).mono ?_
      rintro e w' ⟨⟨hn, _⟩ | ⟨_, rfl⟩, hb⟩
      · exact absurd hn hi
      · exact ⟨rfl, hb⟩
  · exact ⟨0, badV ad len, badE len, fun W hW hT => instant_bad ad D A a len cap day micro W (hW.errs _ (by decide)) hT g, fun W hT => instOf_bad D A a len cap day micro W hT g (badE_pos len), fun W hW => coded_bad ad len W hW⟩

/-- Each instant lies in a day. -/
theorem day_exists {D A : Nat → Int} {len : Nat} (h : Small A len) (t : Int) : ∃ d, startF D A len d ≤ t ∧ t < startF D A len (d + 1) := by
  have hst : ∀ d, d * 86400000000 - 1000000000 ≤ startF D A len d ∧ startF D A len d ≤ d * 86400000000 + 1000000000 := by
    intro d
    have := ofTo_bd (D := D) (day := d) h
    unfold startF; omega
  have htd := tdiv_bd t
  have key : ∀ n : Nat, t < startF D A len (t.tdiv 86400000000 - 3 + n) → ∃ d, startF D A len d ≤ t ∧ t < startF D A len (d + 1) := by
    intro n
    induction n with
    | zero => intro h; have := (hst (t.tdiv 86400000000 - 3 + ((0 : Nat) : Int))).2; omega
    | succ n ih =>
      intro h
      by_cases c : t < startF D A len (t.tdiv 86400000000 - 3 + n)
      · exact ih c
      · exact ⟨t.tdiv 86400000000 - 3 + n, by omega, by rw [Int.natCast_add, Int.natCast_one, ← Int.add_assoc] at h; exact h⟩
  refine key 6 ?_
  have := (hst (t.tdiv 86400000000 - 3 + ((6 : Nat) : Int))).1
  omega

/-- The program's stamp and the reference's, of any table and instant. -/
theorem stamp_pair (ad : Nat → Addr) (D A : Nat → Int) (a : Option Addr) (len cap : Nat) (t : Int) : ∃ (x y : Int) (ev : Value) (e : Int),
    (∀ W, Sents W ad → Tab W a len D A → Calls Tryd.prog 35 #[.slice a len cap, .int .i64 t] W fun e' w' => e' = .returned (.tuple #[.agg #[.int .i64 x, .int .i64 y], ev]) ∧ Below W.heap.size W w') ∧
    (∀ W, Tab W a len D A → Calls Tryd.prog 36 #[.slice a len cap, .int .i64 t] W fun e' w' => e' = .returned (.tuple #[.agg #[.int .i64 x, .int .i64 y], .int .i64 e]) ∧ Below W.heap.size W w') ∧
    (∀ W, Sents W ad → Calls Tryd.prog 15 #[ev, .int .i64 e] W fun e' w' => e' = .returned (.bool true) ∧ Below W.heap.size W w') := by
  by_cases g : goodT D A len
  · cases ht : goodB t with
    | true =>
      obtain ⟨d, h1, h2⟩ := day_exists (D := D) (goodT_small g) t
      refine ⟨d, t - startF D A len d, .nilIface, 0, fun W hW hT => ?_, fun W hT => stampOf_ok D A a len cap t d W hT g ht h1 h2, fun W _ => coded1_nil W⟩
      refine (stamped_ok ad D A a len cap t W (hW.errs _ (by decide)) hT g ht).mono ?_
      rintro e w' ⟨⟨d', rfl, k1, k2, _, _⟩, hb⟩
      have a1 := day_le g.2 (Int.le_refl t) h1 k2
      have a2 := day_le g.2 (Int.le_refl t) k1 h2
      obtain rfl : d = d' := by omega
      exact ⟨rfl, hb⟩
    | false => exact ⟨0, 0, errV ad 2, 3, fun W hW hT => stamped_late ad D A a len cap t W (hW.errs _ (by decide)) hT g ht, fun W hT => stampOf_late D A a len cap t W hT g ht, fun W hW => coded1_err ad 2 3 (by decide) (by decide) W hW⟩
  · exact ⟨0, 0, badV ad len, badE len, fun W hW hT => stamped_bad ad D A a len cap t W (hW.errs _ (by decide)) hT g, fun W hT => stampOf_bad D A a len cap t W hT g (badE_pos len), fun W hW => coded_bad ad len W hW⟩

theorem stamps_long (ad : Nat → Addr) (a : Option Addr) (len cap : Nat) (sd sm t : Int) (hl : 100 < len) (w : World) (he : Errs w ad [1, 2, 3]) :
    Calls Tryd.prog 8 #[.slice a len cap, .agg #[.int .i64 sd, .int .i64 sm], .int .i64 t] w fun e w' => e = .returned (.bool true) ∧ Below w.heap.size w w' := by
  have hb0 : ∀ o, Below w.heap.size w (w.alloc o) := fun o => (Below.refl _ _).alloc (Nat.le_refl _) _
  have HL := Lib.hid (fun o => live_any ad (w.alloc o) (he.below (hb0 o)))
  clear he
  go_enter Tryd.func8, Tryd.ntmps8
  go_wp2_with fail
  refine (HL.out _).mono ?_; rintro e w1 ⟨rfl, hb1⟩
  have HB1 := Lib.hid (below_step (hb0 _) hb1)
  clear hb0 hb1
  go_wp2
  go_ret
  exact ⟨rfl, HB1.out⟩

set_option maxHeartbeats 1000000 in
theorem stamps_ok (ad : Nat → Addr) (D A : Nat → Int) (a : Option Addr) (len cap : Nat) (sd sm t : Int) (hl : len ≤ 100) (w : World) (h : Sents w ad) (hT : Tab w a len D A) :
    Calls Tryd.prog 8 #[.slice a len cap, .agg #[.int .i64 sd, .int .i64 sm], .int .i64 t] w fun e w' => e = .returned (.bool true) ∧ Below w.heap.size w w' := by
  have hb0 : ∀ o, Below w.heap.size w (w.alloc o) := fun o => (Below.refl _ _).alloc (Nat.le_refl _) _
  have HL := Lib.hid (fun o => live_any ad (w.alloc o) ((h.errs _ (by decide)).below (hb0 o)))
  obtain ⟨x, ev, ec, I1, I2, I3⟩ := inst_pair ad D A a len cap sd sm
  obtain ⟨y, z, fv, fc, S1, S2, S3⟩ := stamp_pair ad D A a len cap t
  have HI1 := Lib.hid I1
  have HI2 := Lib.hid I2
  have HI3 := Lib.hid I3
  have HS1 := Lib.hid S1
  have HS2 := Lib.hid S2
  have HS3 := Lib.hid S3
  have HS := Lib.hid h
  have HT := Lib.hid hT
  clear h hT I1 I2 I3 S1 S2 S3
  go_enter Tryd.func8, Tryd.ntmps8
  go_wp2_with fail
  refine (HL.out _).mono ?_; rintro e w1 ⟨rfl, hb1⟩
  obtain ⟨q0, q1, hsz⟩ := freshW hb1
  have HB1 := Lib.hid (below_step (hb0 _) hb1)
  clear hb0 hb1 HL
  go_wp2_with fail
  refine (HI1.out _ (HS.out.below HB1.out) (HT.out.below HB1.out)).mono ?_; rintro e w2 ⟨rfl, hb2⟩
  have r0 : w2.cell? ⟨w.heap.size, 0, none⟩ = some (.int .i64 sd) := by rw [hb2.cell (p := ⟨w.heap.size, 0, none⟩) hsz]; exact q0
  have r1 : w2.cell? ⟨w.heap.size, 1, none⟩ = some (.int .i64 sm) := by rw [hb2.cell (p := ⟨w.heap.size, 1, none⟩) hsz]; exact q1
  have HB2 := Lib.hid (below_step HB1.out hb2)
  clear hb2 q0 q1 HI1
  go_wp2_with fail
  refine (HI2.out _ (HT.out.below HB2.out)).mono ?_; rintro e w3 ⟨rfl, hb3⟩
  have HB3 := Lib.hid (below_step HB2.out hb3)
  clear hb3 r0 r1 HI2
  go_wp2_with fail
  refine (HI3.out _ (HS.out.below HB3.out)).mono ?_; rintro e w4 ⟨rfl, hb4⟩
  have HB4 := Lib.hid (below_step HB3.out hb4)
  clear hb4 HI3
  go_wp2_with fail
  refine (HS1.out _ (HS.out.below HB4.out) (HT.out.below HB4.out)).mono ?_; rintro e w5 ⟨rfl, hb5⟩
  have hb5' := below_step HB4.out hb5
  have hb5a : ∀ o, Below w.heap.size w (w5.alloc o) := fun o => hb5'.alloc hb5'.size _
  have HB5 := Lib.hid hb5a
  clear hb5 hb5' hb5a HS1
  go_wp2_with fail
  refine (HS2.out _ (HT.out.below (HB5.out _))).mono ?_; rintro e w6 ⟨rfl, hb6⟩
  obtain ⟨q0, q1, hsz6⟩ := freshW hb6
  have hb6' := below_step (HB5.out _) hb6
  have hb6a : ∀ o, Below w.heap.size w (w6.alloc o) := fun o => hb6'.alloc hb6'.size _
  have p0 : ∀ o, (w6.alloc o).cell? ⟨w5.heap.size, 0, none⟩ = some (.int .i64 y) := fun o => by rw [World.cell?_alloc_past _ _ _ (by simpa using hsz6)]; exact q0
  have p1 : ∀ o, (w6.alloc o).cell? ⟨w5.heap.size, 1, none⟩ = some (.int .i64 z) := fun o => by rw [World.cell?_alloc_past _ _ _ (by simpa using hsz6)]; exact q1
  have HB6 := Lib.hid hb6a
  have HP0 := Lib.hid p0
  have HP1 := Lib.hid p1
  clear hb6 hb6' hb6a HS2 q0 q1 p0 p1
  go_wp2_with fail
  refine (HS3.out _ (HS.out.below (HB6.out _))).mono ?_; rintro e w7 ⟨rfl, hb7⟩
  obtain ⟨q0, q1, hsz7⟩ := freshW hb7
  have r0 : w7.cell? ⟨w5.heap.size, 0, none⟩ = some (.int .i64 y) := by rw [hb7.cell (p := ⟨w5.heap.size, 0, none⟩) (by simp; omega)]; exact HP0.out _
  have r1 : w7.cell? ⟨w5.heap.size, 1, none⟩ = some (.int .i64 z) := by rw [hb7.cell (p := ⟨w5.heap.size, 1, none⟩) (by simp; omega)]; exact HP1.out _
  have HB7 := Lib.hid (below_step (HB6.out _) hb7)
  clear hb7 HS3 HP0 HP1
  go_wp2
  go_ret
  exact ⟨rfl, HB7.out⟩

theorem stamps_law (ad : Nat → Addr) (D A : Nat → Int) (a : Option Addr) (len cap : Nat) {w : World} (hT : Tab w a len D A) (sd sm : Int) (_ : In64 sd) (_ : In64 sm) (t : Int) (_ : In64 t) (h : Sents w ad) :
    Calls Tryd.prog 8 #[.slice a len cap, .agg #[.int .i64 sd, .int .i64 sm], .int .i64 t] w fun e w' => e = .returned (.bool true) ∧ Below w.heap.size w w' := by
  by_cases hl : 100 < len
  · exact stamps_long ad a len cap sd sm t hl w (h.errs _ (by decide))
  · exact stamps_ok ad D A a len cap sd sm t (by omega) w h hT
end Go.Proofs.YtegnjiecninlaaaDoor
