/- Where light's Power answers an error; what light's Best answers. -/
import Derived.Test.YtbafddlkeocpeaaGreatDoorPwF
namespace Go.Proofs.YtbafddlkeocpeaaGreatDoor
open Go.RowKit Ieee

set_option maxRecDepth 20000 in
theorem power_shape (n m : Nat) (many step frm : Int) (at' al : Option Addr) (ct cl : Nat) (hn : n ≤ 1000000) (hm : m ≤ 1000000) (h : n ≠ m ∨ n = 0) (ad : Nat → Addr) (w : World) (hE : Errs w ad [4]) :
    Calls Tryz.prog 4 #[.slice at' n ct, .slice al m cl, .int .i64 step, .int .i64 frm, .int .i64 many] w fun e w' =>
      e = .returned (.tuple #[.slice none 0 0, errV ad 4]) ∧ Below w.heap.size w w' := by
  have c4 := hE 4 (by simp)
  unfold errG errV at c4
  unfold errV
  by_cases h0 : n = m
  · subst h0
    have hn0 : n = 0 := by omega
    subst hn0
    go_enter Tryz.func4, Tryz.ntmps4
    go_wp2
    go_quiet (fail)
    go_wp2
    go_ret2
    exact ⟨rfl, below_drewN (Below.refl _ _) _⟩
  · have hb : ((n : Int) != (m : Int)) = true := by simp; omega
    have hb' : ((n : Int) == (m : Int)) = false := by simp; omega
    clear h
    go_enter Tryz.func4, Tryz.ntmps4
    go_wp2
    go_quiet (fail)
    go_wp2
    go_ret2
    exact ⟨rfl, below_drewN (Below.refl _ _) _⟩
/-- Bounds that are not kept. -/
def Beyond (f : Nat → Int) (n : Nat) (many step frm : Int) : Prop := 4000 < n ∨ many < 1 ∨ 4000 < many ∨ Far step ∨ Far frm ∨ ∃ j, j < n ∧ Far (f j)
set_option maxRecDepth 20000 in
theorem power_bound (f : Nat → Int) (n : Nat) (many step frm : Int) (at' al : Option Addr) (ct cl : Nat) (hn : n ≤ 1000000) (hn0 : n ≠ 0) (h : Beyond f n many step frm) (ad : Nat → Addr) (w : World) (hE : Errs w ad [1]) (hT : IRow w at' n f) :
    Calls Tryz.prog 4 #[.slice at' n ct, .slice al n cl, .int .i64 step, .int .i64 frm, .int .i64 many] w fun e w' =>
      e = .returned (.tuple #[.slice none 0 0, errV ad 1]) ∧ Below w.heap.size w w' := by
  have c1 := hE 1 (by simp)
  unfold errG errV at c1
  unfold errV
  have hb : ((n : Int) == 0) = false := by simp; omega
  clear hE
  unfold Beyond at h
  by_cases g1 : 4000 < n
  · have k1 : (4000 : Int) < (n : Int) := by omega
    clear h hT
    go_enter Tryz.func4, Tryz.ntmps4
    go_wp2
    go_quiet (fail)
    go_wp2
    go_ret2
    exact ⟨rfl, below_drewN (Below.refl _ _) _⟩
  replace h := h.resolve_left g1
  by_cases g2 : many < 1
  · have k1 : (n : Int) ≤ 4000 := by omega
    have k2 : many < 1 := g2
    clear h hT
    go_enter Tryz.func4, Tryz.ntmps4
    go_wp2
    go_quiet (fail)
    go_wp2
    go_ret2
    exact ⟨rfl, below_drewN (Below.refl _ _) _⟩
  replace h := h.resolve_left g2
  by_cases g3 : 4000 < many
  · have k1 : (n : Int) ≤ 4000 := by omega
    have k2 : ¬ many < 1 := by omega
    have k3 : (4000 : Int) < many := g3
    clear h hT
    go_enter Tryz.func4, Tryz.ntmps4
    go_wp2
    go_quiet (fail)
    go_wp2
    go_ret2
    exact ⟨rfl, below_drewN (Below.refl _ _) _⟩
  replace h := h.resolve_left g3
  by_cases g4 : Far step
  · have k1 : (n : Int) ≤ 4000 := by omega
    have k2 : ¬ many < 1 := by omega
    have k3 : ¬ (4000 : Int) < many := by omega
    have F1 := Lib.hid (fun W => far_yes step g4 W)
    clear h hT
    go_enter Tryz.func4, Tryz.ntmps4
    go_wp2_with fail
    refine (F1.out _).mono ?_; rintro e w1 ⟨rfl, rfl⟩
    go_wp2
    go_quiet (fail)
    go_wp2
    go_ret2
    exact ⟨rfl, below_drewN (Below.refl _ _) _⟩
  replace h := h.resolve_left g4
  by_cases g5 : Far frm
  · have k1 : (n : Int) ≤ 4000 := by omega
    have k2 : ¬ many < 1 := by omega
    have k3 : ¬ (4000 : Int) < many := by omega
    have F1 := Lib.hid (fun W => far_no step g4 W)
    have F2 := Lib.hid (fun W => far_yes frm g5 W)
    clear h hT g4
    go_enter Tryz.func4, Tryz.ntmps4
    go_wp2_with fail
    refine (F1.out _).mono ?_; rintro e w1 ⟨rfl, rfl⟩
    go_wp2_with fail
    refine (F2.out _).mono ?_; rintro e w1 ⟨rfl, rfl⟩
    go_wp2
    go_quiet (fail)
    go_wp2
    go_ret2
    exact ⟨rfl, below_drewN (Below.refl _ _) _⟩
  replace h := h.resolve_left g5
  · have k1 : (n : Int) ≤ 4000 := by omega
    have k2 : ¬ many < 1 := by omega
    have k3 : ¬ (4000 : Int) < many := by omega
    have F1 := Lib.hid (fun W => far_no step g4 W)
    have F2 := Lib.hid (fun W => far_no frm g5 W)
    have F3 := Lib.hid (contains_far f n at' ct (by omega) w hT true ⟨fun _ => h, fun _ => rfl⟩)
    clear h hT g4 g5
    go_enter Tryz.func4, Tryz.ntmps4
    go_wp2_with fail
    refine (F1.out _).mono ?_; rintro e w1 ⟨rfl, rfl⟩
    go_wp2_with fail
    refine (F2.out _).mono ?_; rintro e w1 ⟨rfl, rfl⟩
    go_wp2_with fail
    refine (F3.out).mono ?_; rintro e w1 ⟨rfl, rfl⟩
    go_wp2
    go_quiet (fail)
    go_wp2
    go_ret2
    exact ⟨rfl, below_drewN (Below.refl _ _) _⟩

set_option maxRecDepth 20000 in
theorem best_any (x : Nat → Nat) (n : Nat) (a : Option Addr) (cap : Nat) (hn : n ≤ 1000000) (w : World) (hX : FRow w a n x) :
    Calls Tryz.prog 9 #[.slice a n cap] w fun e w' => e = .returned (.tuple #[.int .i64 (((bestL x n).getD 0 : Nat) : Int), .bool (bestL x n).isSome]) ∧ w' = w := by
  have HX := Lib.hid (fun j (hj : j < n) => hX.at hj)
  clear hX
  go_enter Tryz.func9, Tryz.ntmps9
  go_wp2
  go_loopw [4, 9] (fun b i wr => ∃ k : Nat, k ≤ n ∧ i = .int .i64 k ∧ b = .int .i64 (bestI (bestL x k)) ∧ wr = w) (fun _ i _ => n - (intOf i).toNat)
  case atStart => exact ⟨0, Nat.zero_le _, rfl, rfl, rfl⟩
  case round =>
    obtain ⟨k, hk, rfl, rfl, rfl⟩ := hrel
    by_cases hlt : k < n
    · obtain ⟨bx, ox, rfl, _, c1⟩ := HX.out k hlt
      by_cases hq : FloatKind.f64.format.order (x k) (x k) = some .eq
      · cases hbk : bestL x k with
        | none =>
          have hb : bestL x (k + 1) = some k := by rw [bestL, if_pos hq, hbk]
          have HB := Lib.hid hb
          clear hb hbk
          rw [show bestI none = -1 from rfl]
          go_wp2
          refine ⟨⟨k + 1, by omega, by simp, by rw [HB.out]; rfl, trivial⟩, by simp [intOf]; omega⟩
        | some b =>
          have hbl := bestL_lt x k b hbk
          obtain ⟨by', oy, e, _, c2⟩ := HX.out b (by omega)
          cases e
          by_cases hg : FloatKind.f64.format.order (x k) (x b) = some .gt
          · have hb : bestL x (k + 1) = some k := by rw [bestL, if_pos hq, hbk]; simp only; rw [if_pos hg]
            have HB := Lib.hid hb
            clear hb hbk
            rw [show bestI (some b) = (b : Int) from rfl]
            go_wp2
            refine ⟨⟨k + 1, by omega, by simp, by rw [HB.out]; rfl, trivial⟩, by simp [intOf]; omega⟩
          · have hb : bestL x (k + 1) = some b := by rw [bestL, if_pos hq, hbk]; simp only; rw [if_neg hg]
            have hg' : (FloatKind.f64.format.order (x k) (x b) == some Ordering.gt) = false := by simpa using hg
            clear hg
            have HB := Lib.hid hb
            clear hb hbk
            rw [show bestI (some b) = (b : Int) from rfl]
            go_wp2
            refine ⟨⟨k + 1, by omega, by simp, by rw [HB.out]; rfl, trivial⟩, by simp [intOf]; omega⟩
      · have hb : bestL x (k + 1) = bestL x k := by rw [bestL, if_neg hq]
        have HB := Lib.hid hb
        clear hb
        generalize bestL x k = bk at *
        go_wp2
        refine ⟨⟨k + 1, by omega, by simp, by rw [HB.out], trivial⟩, by simp [intOf]; omega⟩
    · have hkn : k = n := by omega
      subst hkn
      cases hbk : bestL x k with
      | none =>
        rw [show bestI none = -1 from rfl]
        have HB := Lib.hid hbk
        clear hbk
        go_wp2
        go_ret2
        exact ⟨by rw [HB.out]; rfl, rfl⟩
      | some b =>
        have hbl := bestL_lt x k b hbk
        rw [show bestI (some b) = (b : Int) from rfl]
        have HB := Lib.hid hbk
        clear hbk
        go_wp2
        go_ret2
        exact ⟨by rw [HB.out]; rfl, rfl⟩
end Go.Proofs.YtbafddlkeocpeaaGreatDoor
