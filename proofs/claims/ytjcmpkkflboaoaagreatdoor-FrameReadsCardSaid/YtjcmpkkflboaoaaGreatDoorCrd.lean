/- frame.card. -/
import Derived.Test.YtjcmpkkflboaoaaGreatDoorTrm
import Derived.Test.YtjcmpkkflboaoaaGreatDoorFilP
import Derived.Test.YtjcmpkkflboaoaaGreatDoorCtn
namespace Go.Proofs.YtjcmpkkflboaoaaGreatDoor
open Go.RowKit

theorem BIn.below {w w' : World} {b o : Nat} {l : List UInt8} (h : BIn w b o l) (hb : Below w.heap.size w w') : BIn w' b o l := fun i x hx => by
  have h1 := h i x hx
  rw [hb.cell (p := ⟨b, o + i, none⟩) (cell_lt h1)]
  exact h1
theorem trim_any (s : ByteArray) (hs : s.size ≤ 1000000) (w : World) :
    Calls Tryz.prog 53 #[.string s, .string ⟨#[32]⟩] w fun e w' => e = .returned (.string (bs (Lib.trimRightB s.data.toList 32))) ∧ w' = w := Tryz.strings_TrimRight_one s 32 (by decide) w (by omega)
/-- Cards that are right in a row of bytes. -/
def cardL (l : List UInt8) : Crd := (Lib.trimRightB (sl l 0 8) 32, Lib.trimRightB (sl l 10 70) 32)
set_option maxRecDepth 10000 in
set_option maxHeartbeats 1000000 in
theorem card_bad (l : List UInt8) (b o cap : Nat) (w : World) (h : BIn w b o l) (hl : l.length = 80) (hc : 80 ≤ cap) (hr : sl l 8 2 ≠ [61, 32]) :
    Calls Tryz.prog 33 #[.slice (some ⟨b, o, none⟩) 80 cap] w fun e w' => e = .returned (.tuple #[aggC ([], []), .bool false]) ∧ Below w.heap.size w w' := by
  have hb0 : ∀ o, Below w.heap.size w (w.alloc o) := fun o => (Below.refl _ _).alloc (Nat.le_refl _) _
  have hcv := (h.below (hb0 (.cells #[.string ⟨#[]⟩, .string ⟨#[]⟩] 51))).conv (k := 8) (n := 2) (cap := cap - 8) (by omega)
  have HB0 := Lib.hid (hb0 (.cells #[.string ⟨#[]⟩, .string ⟨#[]⟩] 51))
  have hsz : (bs (sl l 8 2)).size = 2 := by rw [bs_size, sl_len (by omega)]
  have hE : ((bs (sl l 8 2)).toList == [61, 32]) = false := by rw [bs_toList, beq_eq_false_iff_ne]; exact hr
  unfold sl at *
  generalize bs ((l.drop 8).take 2) = s at *
  clear h hr hb0
  unfold aggC
  go_enter Tryz.func33, Tryz.ntmps33
  go_wp2
  refine bodyPost_ret (v := .tuple #[.agg #[.string ⟨#[]⟩, .string ⟨#[]⟩], .bool false]) ?_ rfl ?_
  · simp [results, Tryz.results33, go_sem]
  · exact ⟨rfl, HB0.out⟩
set_option maxRecDepth 10000 in
set_option maxHeartbeats 1000000 in
theorem card_good (l : List UInt8) (b o cap : Nat) (w : World) (h : BIn w b o l) (hl : l.length = 80) (hc : 80 ≤ cap) (hr : sl l 8 2 = [61, 32]) :
    Calls Tryz.prog 33 #[.slice (some ⟨b, o, none⟩) 80 cap] w fun e w' => e = .returned (.tuple #[aggC (cardL l), .bool true]) ∧ Below w.heap.size w w' := by
  have hb0 : ∀ o, Below w.heap.size w (w.alloc o) := fun o => (Below.refl _ _).alloc (Nat.le_refl _) _
  have hcv := (h.below (hb0 (.cells #[.string ⟨#[]⟩, .string ⟨#[]⟩] 51))).conv (k := 8) (n := 2) (cap := cap - 8) (by omega)
  have HB0 := Lib.hid (hb0 (.cells #[.string ⟨#[]⟩, .string ⟨#[]⟩] 51))
  have HCV : Hid (∀ W, Below w.heap.size w W → (convert 27 9 (.slice (some ⟨b, o, none⟩) 8 cap)).run Tryz.prog W = .ok (.string (bs ((l.drop 0).take 8))) W ∧ (convert 27 9 (.slice (some ⟨b, o + 10, none⟩) 70 (cap - 10))).run Tryz.prog W = .ok (.string (bs ((l.drop 10).take 70))) W) := Lib.hid (fun W hb => ⟨(h.below hb).conv (k := 0) (n := 8) (cap := cap) (by omega), (h.below hb).conv (k := 10) (n := 70) (cap := cap - 10) (by omega)⟩)
  have hsz : (bs (sl l 8 2)).size = 2 := by rw [bs_size, sl_len (by omega)]
  have hE : ((bs (sl l 8 2)).toList == [61, 32]) = true := by rw [bs_toList, hr, beq_self_eq_true]
  have HT1 : Hid (∀ W, Calls Tryz.prog 53 #[.string (bs (sl l 0 8)), .string ⟨#[32]⟩] W fun e w' => e = .returned (.string (bs (cardL l).1)) ∧ w' = W) := Lib.hid (fun W => by
    have := trim_any (bs (sl l 0 8)) (by rw [bs_size, sl_len (by omega)]; omega) W
    rw [show (bs (sl l 0 8)).data.toList = sl l 0 8 by simp [bs]] at this
    exact this)
  have HT2 : Hid (∀ W, Calls Tryz.prog 53 #[.string (bs (sl l 10 70)), .string ⟨#[32]⟩] W fun e w' => e = .returned (.string (bs (cardL l).2)) ∧ w' = W) := Lib.hid (fun W => by
    have := trim_any (bs (sl l 10 70)) (by rw [bs_size, sl_len (by omega)]; omega) W
    rw [show (bs (sl l 10 70)).data.toList = sl l 10 70 by simp [bs]] at this
    exact this)
  clear h hr hb0
  unfold aggC
  generalize bs (cardL l).1 = r1 at *
  generalize bs (cardL l).2 = r2 at *
  unfold sl at *
  generalize bs ((l.drop 8).take 2) = s at *
  generalize bs ((l.drop 0).take 8) = s1 at *
  generalize bs ((l.drop 10).take 70) = s2 at *
  go_enter Tryz.func33, Tryz.ntmps33
  go_wp2
  have i8 : (8 : Int) ≤ (cap : Int) := by omega
  have i10 : ¬ cap = 10 := by omega
  obtain ⟨W1, hW1⟩ : ∃ W1, (w.alloc (.cells #[.string ⟨#[]⟩, .string ⟨#[]⟩] 51)).drew = W1 := ⟨_, rfl⟩
  have c0 : W1.cell? ⟨w.heap.size, 0, none⟩ = some (.string ⟨#[]⟩) := by subst hW1; simp
  have c1 : W1.cell? ⟨w.heap.size, 1, none⟩ = some (.string ⟨#[]⟩) := by subst hW1; simp
  have f0 : W1.frozen? ⟨w.heap.size, 0, none⟩ = false := by subst hW1; simp
  have f1 : W1.frozen? ⟨w.heap.size, 1, none⟩ = false := by subst hW1; simp
  have HBW : Hid (Below w.heap.size w W1) := Lib.hid (by subst hW1; exact HB0.out.drew)
  have HB2 := Lib.hid ((HBW.out.setCell (p := ⟨w.heap.size, 0, none⟩) (Nat.le_refl _) (.string r1)).setCell (p := ⟨w.heap.size, 1, none⟩) (Nat.le_refl _) (.string r2))
  have HS := Lib.hid (HCV.out W1 HBW.out)
  have HS2 := Lib.hid (HCV.out _ HB2.out)
  clear HCV hcv
  go_region_held3 (fun w' => (convert 27 9 (.slice (some ⟨b, o, none⟩) 8 cap)).run Tryz.prog w' = .ok (.string s1) w' ∧ (convert 27 9 (.slice (some ⟨b, o + 10, none⟩) 70 (cap - 10))).run Tryz.prog w' = .ok (.string s2) w')
    (first | (exact HS.out) | (exact HS2.out) | (rw [hW1]; exact HS.out) | go_keep)
    (first
      | (go_at_call 53; with_reducible refine (HT1.out _).mono ?_; rintro e w4 ⟨rfl, hw⟩; rw [hw])
      | (go_at_call 53; with_reducible refine (HT2.out _).mono ?_; rintro e w4 ⟨rfl, hw⟩; rw [hw]))
  all_goals
    clear hW1 HS HS2 HT1 HT2 HBW
    go_wp2
    refine bodyPost_ret (v := .tuple #[.agg #[.string r1, .string r2], .bool true]) ?_ rfl ?_
    · simp [results, Tryz.results33, go_sem, c0, c1]
    · exact ⟨rfl, HB2.out⟩
end Go.Proofs.YtjcmpkkflboaoaaGreatDoor
