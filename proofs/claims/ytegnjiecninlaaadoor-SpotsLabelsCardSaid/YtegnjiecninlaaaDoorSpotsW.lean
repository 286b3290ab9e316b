/- The law SpotsLabels: its walk. -/
import Derived.Test.YtegnjiecninlaaaDoorLabelsOf
import Derived.Test.YtegnjiecninlaaaDoorLabelW
import Derived.Test.YtegnjiecninlaaaDoorCoded4
namespace Go.Proofs.YtegnjiecninlaaaDoor
open Go.RowKit

theorem label_long (ad : Nat → Addr) (a : Option Addr) (n cap : Nat) (wide : Int) (hl : 65536 < n) (w : World) (he : Errs w ad [1, 4]) :
    Calls Tryd.prog 17 #[.slice a n cap, .int .i64 wide] w fun e w' => e = .returned (.tuple #[.slice none 0 0, .int .i64 0, errV ad 1]) ∧ Below w.heap.size w w' := by
  have g1 : w.cell? ⟨1, 0, none⟩ = some (.iface 202 (.pointer (some (ad 1)))) := he 1 (by decide)
  clear he
  unfold errV
  go_enter Tryd.func17, Tryd.ntmps17
  go_wp2
  go_quiet (fail)
  go_wp2
  go_ret3
  exact ⟨rfl, below_drewN (Below.refl _ _) _⟩
theorem label_thin (ad : Nat → Addr) (a : Option Addr) (n cap : Nat) (wide : Int) (hl : n ≤ 65536) (hw : wide < 1) (w : World) (he : Errs w ad [1, 4]) :
    Calls Tryd.prog 17 #[.slice a n cap, .int .i64 wide] w fun e w' => e = .returned (.tuple #[.slice none 0 0, .int .i64 0, errV ad 4]) ∧ Below w.heap.size w w' := by
  have g1 : w.cell? ⟨2, 0, none⟩ = some (.iface 202 (.pointer (some (ad 4)))) := he 4 (by decide)
  clear he
  unfold errV
  go_enter Tryd.func17, Tryd.ntmps17
  go_wp2
  go_quiet (fail)
  go_wp2
  go_ret3
  exact ⟨rfl, below_drewN (Below.refl _ _) _⟩
theorem label_shape (ad : Nat → Addr) (a : Option Addr) (n cap wide : Nat) (hl : n ≤ 65536) (hw : 1 ≤ wide) (hr : ((n : Int) % wide != 0) = true) (w : World) (he : Errs w ad [1, 4]) :
    Calls Tryd.prog 17 #[.slice a n cap, .int .i64 wide] w fun e w' => e = .returned (.tuple #[.slice none 0 0, .int .i64 0, errV ad 4]) ∧ Below w.heap.size w w' := by
  have g1 : w.cell? ⟨2, 0, none⟩ = some (.iface 202 (.pointer (some (ad 4)))) := he 4 (by decide)
  have hw0 : ((wide : Int) == 0) = false := by simp; omega
  clear he
  unfold errV
  go_enter Tryd.func17, Tryd.ntmps17
  go_wp2
  go_quiet (fail)
  go_wp2
  go_ret3
  exact ⟨rfl, below_drewN (Below.refl _ _) _⟩

/-! ### the three pixels of the law's own test -/
def lit3 (k : Nat) : Bool := k == 0 || k == 2
theorem adj3 {c : Nat} (h : Adj 3 3 0 c) : lit3 c = false := by
  obtain ⟨_, hc, hne, dy, dx, a1, a2, b1, b2, e, c1, c2⟩ := h
  have : c = 1 ∨ c = 2 := by omega
  rcases this with rfl | rfl
  · rfl
  · simp at c1 c2 e
    omega
theorem conn3 {x : Nat} (h : Conn lit3 3 3 0 x) : x = 0 := by
  induction h with
  | refl _ _ => rfl
  | step _ h2 h3 ih =>
    subst ih
    rw [adj3 h2] at h3
    cases h3

theorem rc3 : rc lit3 3 3 3 = 2 := by
  have r0 : Root lit3 3 3 0 := ⟨rfl, by decide, fun j hj => absurd hj (Nat.not_lt_zero _)⟩
  have r1 : ¬ Root lit3 3 3 1 := fun h => by have := h.1; cases this
  have r2 : Root lit3 3 3 2 := ⟨rfl, by decide, fun j hj hc => by
    have : j = 0 ∨ j = 1 := by omega
    rcases this with rfl | rfl
    · have := conn3 hc; omega
    · have := hc.lit1.1; cases this⟩
  rw [rc_root r2, rc_not r1, rc_root r0]; rfl
theorem label_three (w : World) (T : TypeId) :
    Calls Tryd.prog 17 #[.slice (some ⟨w.heap.size, 0, none⟩) 3 3, .int .i64 3] (w.alloc (.cells #[.bool true, .bool false, .bool true] T)) fun e w' => (∃ a cap, e = .returned (.tuple #[.slice a 3 cap, .int .i64 2, .nilIface])) ∧ Below w.heap.size w w' := by
  have h := label_any lit3 3 3 (by decide) (by decide) (by decide) (some ⟨w.heap.size, 0, none⟩) 3 (w.alloc (.cells #[.bool true, .bool false, .bool true] T)) (Or.inr ⟨_, _, rfl, fun j hj => by
    have : j = 0 ∨ j = 1 ∨ j = 2 := by omega
    rcases this with rfl | rfl | rfl <;> simp [lit3]⟩)
  rw [rc3] at h
  refine h.mono ?_
  rintro e w' ⟨M, rfl, hW, _⟩
  exact ⟨⟨_, _, rfl⟩, ((Below.refl _ _).alloc (Nat.le_refl _) _).trans (hW.2.1.mono (by simp))⟩

theorem spots_pre (ad : Nat → Addr) (lit : Nat → Bool) (pa : Option Addr) (n ca : Nat) (wide : Int) (h1 : 700 < n) (h2 : n ≤ 65536) (w : World) :
    Calls Tryd.prog 4 #[.slice pa n ca, .int .i64 wide] w fun e w' => e = .returned (.bool true) ∧ Below w.heap.size w w' := by
  have H3 := Lib.hid (label_three w 4)
  go_enter Tryd.func4, Tryd.ntmps4
  go_wp2_with fail
  refine H3.out.mono ?_; rintro e w1 ⟨⟨a, cap, rfl⟩, hb1⟩
  clear H3
  go_wp2
  go_ret
  exact ⟨rfl, hb1⟩

theorem spots_bad (ad : Nat → Addr) (pa : Option Addr) (n ca : Nat) (wide : Int) (i : Nat) (code : Int) (hi : i < 10) (hc : (i : Int) + 1 = code) (w : World) (h : Sents w ad)
    (hcase : (65536 < n ∧ i = 1) ∨ (n ≤ 700 ∧ i = 4 ∧ (wide < 1 ∨ ∃ v : Nat, wide = v ∧ 1 ≤ v ∧ ((n : Int) % v != 0) = true))) :
    Calls Tryd.prog 4 #[.slice pa n ca, .int .i64 wide] w fun e w' => e = .returned (.bool true) ∧ Below w.heap.size w w' := by
  have H3 := Lib.hid (label_three w 4)
  have HS := Lib.hid h
  clear h
  rcases hcase with ⟨h1, rfl⟩ | ⟨h1, rfl, h2⟩
  · obtain rfl : code = 2 := by omega
    have HB := Lib.hid (fun W (hW : Errs W ad [1, 4]) => label_long ad pa n ca wide h1 W hW)
    have HC := Lib.hid (fun W (hW : Sents W ad) => coded4_err ad 1 2 (by decide) (by decide) W hW)
    unfold errV at HB HC
    go_enter Tryd.func4, Tryd.ntmps4
    go_wp2_with fail
    refine H3.out.mono ?_; rintro e w1 ⟨⟨a, cap, rfl⟩, hb1⟩
    have HB1 := Lib.hid hb1
    clear H3 hb1
    go_wp2_with fail
    refine (HB.out _ ((HS.out.below HB1.out).errs _ (by decide))).mono ?_; rintro e w2 ⟨rfl, hb2⟩
    have HB2 := Lib.hid (below_step HB1.out hb2)
    clear hb2 HB
    go_wp2_with fail
    refine (HC.out _ (HS.out.below HB2.out)).mono ?_; rintro e w3 ⟨rfl, hb3⟩
    have HB3 := Lib.hid (below_step HB2.out hb3)
    clear hb3 HC
    go_wp2
    go_ret
    exact ⟨rfl, HB3.out⟩
  · obtain rfl : code = 5 := by omega
    have HC := Lib.hid (fun W (hW : Sents W ad) => coded4_err ad 4 5 (by decide) (by decide) W hW)
    rcases h2 with h2 | ⟨v, rfl, hv, h2⟩
    · have HB := Lib.hid (fun W (hW : Errs W ad [1, 4]) => label_thin ad pa n ca wide (by omega) h2 W hW)
      unfold errV at HB HC
      go_enter Tryd.func4, Tryd.ntmps4
      go_wp2_with fail
      refine H3.out.mono ?_; rintro e w1 ⟨⟨a, cap, rfl⟩, hb1⟩
      have HB1 := Lib.hid hb1
      clear H3 hb1
      go_wp2_with fail
      refine (HB.out _ ((HS.out.below HB1.out).errs _ (by decide))).mono ?_; rintro e w2 ⟨rfl, hb2⟩
      have HB2 := Lib.hid (below_step HB1.out hb2)
      clear hb2 HB
      go_wp2_with fail
      refine (HC.out _ (HS.out.below HB2.out)).mono ?_; rintro e w3 ⟨rfl, hb3⟩
      have HB3 := Lib.hid (below_step HB2.out hb3)
      clear hb3 HC
      go_wp2
      go_ret
      exact ⟨rfl, HB3.out⟩
    · have HB := Lib.hid (fun W (hW : Errs W ad [1, 4]) => label_shape ad pa n ca v (by omega) hv h2 W hW)
      have hw0 : ((v : Int) == 0) = false := by simp; omega
      unfold errV at HB HC
      go_enter Tryd.func4, Tryd.ntmps4
      go_wp2_with fail
      refine H3.out.mono ?_; rintro e w1 ⟨⟨a, cap, rfl⟩, hb1⟩
      have HB1 := Lib.hid hb1
      clear H3 hb1
      go_wp2_with fail
      refine (HB.out _ ((HS.out.below HB1.out).errs _ (by decide))).mono ?_; rintro e w2 ⟨rfl, hb2⟩
      have HB2 := Lib.hid (below_step HB1.out hb2)
      clear hb2 HB
      go_wp2_with fail
      refine (HC.out _ (HS.out.below HB2.out)).mono ?_; rintro e w3 ⟨rfl, hb3⟩
      have HB3 := Lib.hid (below_step HB2.out hb3)
      clear hb3 HC
      go_wp2
      go_ret
      exact ⟨rfl, HB3.out⟩

theorem spots_ok (lit : Nat → Bool) (pa : Option Addr) (n ca wide : Nat) (h1 : n ≤ 700) (hw : 1 ≤ wide) (hd : n % wide = 0) (w : World) (hL : Bools w pa n lit) :
    Calls Tryd.prog 4 #[.slice pa n ca, .int .i64 wide] w fun e w' => e = .returned (.bool true) ∧ Below w.heap.size w w' := by
  have H3 := Lib.hid (label_three w 4)
  have HL := Lib.hid hL
  have HLA := Lib.hid (fun W (hW : Bools W pa n lit) => label_any lit n wide (by omega) hd (by omega) pa ca W hW)
  have HLO := Lib.hid (fun W (hW : Bools W pa n lit) => labelsOf_any lit n wide (by omega) hd (by omega) pa ca W hW)
  have hm0 : ((n : Int) % wide != 0) = false := by
    have : ((n % wide : Nat) : Int) = (n : Int) % wide := Int.natCast_emod ..
    rw [bne_eq_false_iff_eq]; omega
  have hw0 : ((wide : Int) == 0) = false := by simp; omega
  clear hL hd
  generalize rc lit wide n n = p at *
  go_enter Tryd.func4, Tryd.ntmps4
  go_wp2_with fail
  refine H3.out.mono ?_; rintro e w1 ⟨⟨a, cap, rfl⟩, hb1⟩
  have HB1 := Lib.hid hb1
  clear H3 hb1
  go_wp2_with fail
  refine (HLA.out _ (HL.out.below HB1.out)).mono ?_; rintro e w2 ⟨M, rfl, hW2, hF2⟩
  have HB2 := Lib.hid (below_step HB1.out hW2.2.1)
  have hsz2 := hW2.2.2.1
  have HW2 := Lib.hid hW2
  have HF2 := Lib.hid hF2.labels
  clear hW2 hF2 HLA
  go_wp2_with fail
  refine (HLO.out _ (HL.out.below HB2.out)).mono ?_; rintro e w3 ⟨Z, rfl, hW3, hF3⟩
  have HB3 := Lib.hid (below_step HB2.out hW3.2.1)
  have HA := Lib.hid (show IRow w3 (some ⟨w1.heap.size, 0, none⟩) n (fun j => (M j : Int)) from Or.inr ⟨_, _, rfl, fun j hj => by
    rw [Nat.zero_add, hW3.2.1.cell (p := ⟨w1.heap.size, j, none⟩) hsz2]; exact (HW2.out.1 j hj).1⟩)
  have HZ := Lib.hid (show IRow w3 (some ⟨w2.heap.size, 0, none⟩) n Z from Or.inr ⟨_, _, rfl, fun j hj => by rw [Nat.zero_add]; exact (hW3.1 j hj).1⟩)
  have HSI := Lib.hid (sameInts_any (fun j => (M j : Int)) Z _ _ n n n (by omega) w3 HA.out HZ.out (labels_one HF2.out hF3))
  clear hW3 hF3 HLO HA HZ HF2 HW2 hsz2
  go_wp2_with fail
  refine HSI.out.mono ?_; rintro e w4 ⟨rfl, hb4⟩
  have HB4 := Lib.hid (below_step HB3.out hb4)
  clear hb4 HSI
  go_wp2
  go_ret
  exact ⟨rfl, HB4.out⟩

theorem spots_law (ad : Nat → Addr) (lit : Nat → Bool) (pa : Option Addr) (n ca : Nat) {w : World} (hL : Bools w pa n lit) (wide : Int) (_ : In64 wide) (h : Sents w ad) :
    Calls Tryd.prog 4 #[.slice pa n ca, .int .i64 wide] w fun e w' => e = .returned (.bool true) ∧ Below w.heap.size w w' := by
  by_cases c1 : 65536 < n
  · exact spots_bad ad pa n ca wide 1 2 (by decide) (by decide) w h (Or.inl ⟨c1, rfl⟩)
  by_cases c2 : 700 < n
  · exact spots_pre ad lit pa n ca wide c2 (by omega) w
  by_cases c3 : wide < 1
  · exact spots_bad ad pa n ca wide 4 5 (by decide) (by decide) w h (Or.inr ⟨by omega, rfl, Or.inl c3⟩)
  obtain ⟨v, rfl⟩ : ∃ v : Nat, wide = v := ⟨wide.toNat, by omega⟩
  by_cases c4 : n % v = 0
  · exact spots_ok lit pa n ca v (by omega) (by omega) c4 w hL
  · refine spots_bad ad pa n ca v 4 5 (by decide) (by decide) w h (Or.inr ⟨by omega, rfl, Or.inr ⟨v, rfl, by omega, ?_⟩⟩)
    have : ((n % v : Nat) : Int) = (n : Int) % v := Int.natCast_emod ..
    rw [bne_iff_ne]; omega
end Go.Proofs.YtegnjiecninlaaaDoor
