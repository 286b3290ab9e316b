/- Pictures behind a pointer: what PictureError and small answer; framed. -/
import Derived.Test.YtjcmpkkflboaoaaGreatDoorPic
namespace Go.Proofs.YtjcmpkkflboaoaaGreatDoor
open Go.RowKit

/-- A picture in memory. -/
def PicAt (w : World) (b o : Nat) (W H : Int) (a : Option Addr) (n cap : Nat) (f : Nat → Int) : Prop :=
  w.cell? ⟨b, o, none⟩ = some (.int .i64 W) ∧ w.cell? ⟨b, o + 1, none⟩ = some (.int .i64 H) ∧ w.cell? ⟨b, o + 2, none⟩ = some (.slice a n cap) ∧ IRow w a n f
theorem PicAt.below {w w' : World} {b o : Nat} {W H : Int} {a : Option Addr} {n cap : Nat} {f : Nat → Int} (h : PicAt w b o W H a n cap f) (hb : Below w.heap.size w w') : PicAt w' b o W H a n cap f := by
  obtain ⟨h1, h2, h3, h4⟩ := h
  have hlt := cell_lt h1
  exact ⟨by rw [hb.cell (p := ⟨b, o, none⟩) hlt]; exact h1, by rw [hb.cell (p := ⟨b, o + 1, none⟩) hlt]; exact h2, by rw [hb.cell (p := ⟨b, o + 2, none⟩) hlt]; exact h3, h4.below hb⟩

theorem picE_1 (b o : Nat) (W H : Int) (f : Nat → Int) (a : Option Addr) (n cap : Nat) (w : World) (h : PicAt w b o W H a n cap f) (c : 256 < W) :
    Calls Tryz.prog 26 #[.pointer (some ⟨b, o, none⟩)] w fun e w' => e = .returned (.int .i64 2) ∧ Below w.heap.size w w' := by
  obtain ⟨k0, k1, k2, hR⟩ := h
  clear hR
  go_enter Tryz.func26, Tryz.ntmps26
  go_wp2
  go_ret
  exact ⟨rfl, Below.refl _ _⟩

theorem picE_2 (b o : Nat) (W H : Int) (f : Nat → Int) (a : Option Addr) (n cap : Nat) (w : World) (h : PicAt w b o W H a n cap f) (c0 : ¬ 256 < W) (c : 256 < H) :
    Calls Tryz.prog 26 #[.pointer (some ⟨b, o, none⟩)] w fun e w' => e = .returned (.int .i64 2) ∧ Below w.heap.size w w' := by
  obtain ⟨k0, k1, k2, hR⟩ := h
  clear hR
  go_enter Tryz.func26, Tryz.ntmps26
  go_wp2
  go_ret
  exact ⟨rfl, Below.refl _ _⟩

theorem picE_3 (b o : Nat) (W H : Int) (f : Nat → Int) (a : Option Addr) (n cap : Nat) (w : World) (h : PicAt w b o W H a n cap f) (c0 : ¬ 256 < W) (c1 : ¬ 256 < H) (c : W < 1) :
    Calls Tryz.prog 26 #[.pointer (some ⟨b, o, none⟩)] w fun e w' => e = .returned (.int .i64 5) ∧ Below w.heap.size w w' := by
  obtain ⟨k0, k1, k2, hR⟩ := h
  have dw : decide (W < 1) = true := by simp; omega
  clear hR
  go_enter Tryz.func26, Tryz.ntmps26
  go_wp2
  go_quiet (fail)
  go_wp2
  go_ret
  exact ⟨rfl, below_drewN (Below.refl _ _) _⟩

theorem picE_4 (b o : Nat) (W H : Int) (f : Nat → Int) (a : Option Addr) (n cap : Nat) (w : World) (h : PicAt w b o W H a n cap f) (c0 : ¬ 256 < W) (c1 : ¬ 256 < H) (c2 : ¬ W < 1) (c : H < 1) :
    Calls Tryz.prog 26 #[.pointer (some ⟨b, o, none⟩)] w fun e w' => e = .returned (.int .i64 5) ∧ Below w.heap.size w w' := by
  obtain ⟨k0, k1, k2, hR⟩ := h
  have dw : decide (W < 1) = false := by simp; omega
  have dh : decide (H < 1) = true := by simp; omega
  clear hR
  go_enter Tryz.func26, Tryz.ntmps26
  go_wp2
  go_quiet (fail)
  go_wp2
  go_ret
  exact ⟨rfl, below_drewN (Below.refl _ _) _⟩

theorem picE_5 (b o : Nat) (W H : Int) (f : Nat → Int) (a : Option Addr) (n cap : Nat) (w : World) (h : PicAt w b o W H a n cap f) (c0 : ¬ 256 < W) (c1 : ¬ 256 < H) (c2 : ¬ W < 1) (c3 : ¬ H < 1) (hn : n ≤ 9223372036854775807) (c : (n : Int) ≠ W * H) :
    Calls Tryz.prog 26 #[.pointer (some ⟨b, o, none⟩)] w fun e w' => e = .returned (.int .i64 5) ∧ Below w.heap.size w w' := by
  obtain ⟨k0, k1, k2, hR⟩ := h
  have p1 : 1 ≤ W * H := by
    have := Int.mul_le_mul (show (1 : Int) ≤ W by omega) (show (1 : Int) ≤ H by omega) (by decide) (by omega)
    omega
  have p2 : W * H ≤ 65536 := by
    have := Int.mul_le_mul (show W ≤ (256 : Int) by omega) (show H ≤ (256 : Int) by omega) (by omega) (by decide)
    omega
  have dw : decide (W < 1) = false := by simp; omega
  have dh : decide (H < 1) = false := by simp; omega
  have b5 : ((n : Int) != W * H) = true := by rw [bne_iff_ne]; exact c
  clear hR c
  go_enter Tryz.func26, Tryz.ntmps26
  go_wp2
  go_quiet (fail)
  go_wp2
  go_ret
  exact ⟨rfl, below_drewN (Below.refl _ _) _⟩

theorem picE_row (b o : Nat) (W H : Int) (f : Nat → Int) (a : Option Addr) (n cap : Nat) (w : World) (h : PicAt w b o W H a n cap f) (c0 : ¬ 256 < W) (c1 : ¬ 256 < H) (c2 : ¬ W < 1) (c3 : ¬ H < 1) (c4 : (n : Int) = W * H) :
    Calls Tryz.prog 26 #[.pointer (some ⟨b, o, none⟩)] w fun e w' => ((cntOk f n ∧ e = .returned (.int .i64 0)) ∨ (¬ cntOk f n ∧ e = .returned (.int .i64 5))) ∧ Below w.heap.size w w' := by
  obtain ⟨k0, k1, k2, hR⟩ := h
  have p1 : 1 ≤ W * H := by
    have := Int.mul_le_mul (show (1 : Int) ≤ W by omega) (show (1 : Int) ≤ H by omega) (by decide) (by omega)
    omega
  have p2 : W * H ≤ 65536 := by
    have := Int.mul_le_mul (show W ≤ (256 : Int) by omega) (show H ≤ (256 : Int) by omega) (by omega) (by decide)
    omega
  have dw : decide (W < 1) = false := by simp; omega
  have dh : decide (H < 1) = false := by simp; omega
  have b5 : ((n : Int) != W * H) = false := by rw [bne_eq_false_iff_eq]; exact c4
  have hn : n ≤ 1000000 := by omega
  have HA := Lib.hid (fun j (hj : j < n) => hR.at hj)
  have hlt := cell_lt k2
  have K2 := Lib.hid k2
  clear c4 hR
  go_enter Tryz.func26, Tryz.ntmps26
  go_wp2
  go_quiet (fail)
  go_wp2
  clear k0 k1 k2
  have HB0 : Hid (Below w.heap.size w (w.drewN nq)) := Lib.hid (below_drewN (Below.refl _ _) _)
  go_loopw [3] (fun x wr => ∃ k : Nat, k ≤ n ∧ x = .int .i64 k ∧ Hid (cntOk f k) ∧ Hid (Below w.heap.size w wr)) (fun x _ => n - (intOf x).toNat)
  case atStart => exact ⟨0, Nat.zero_le _, rfl, fun j hj => absurd hj (Nat.not_lt_zero _), HB0⟩
  case round =>
    obtain ⟨k, hk, rfl, hok, hB⟩ := hrel
    clear HB0
    have k2 : wr.cell? ⟨b, o + 2, none⟩ = some (.slice a n cap) := by rw [hB.out.cell (p := ⟨b, o + 2, none⟩) hlt]; exact K2.out
    by_cases hkn : k < n
    · obtain ⟨ba, oa, rfl, hba, ca⟩ := HA.out k hkn
      have c1 : wr.cell? ⟨ba, oa + k, none⟩ = some (.int .i64 (f k)) := by rw [hB.out.cell (p := ⟨ba, oa + k, none⟩) hba]; exact ca
      clear ca
      by_cases hx : 0 ≤ f k ∧ f k ≤ 65535
      · have HO : Hid (cntOk f (k + 1)) := Lib.hid fun j hj => by
          by_cases e : j = k
          · rw [e]; exact hx
          · exact hok.out j (by omega)
        obtain ⟨x1, x2⟩ := hx
        clear hok
        go_wp2
        go_roundw
        case rel => exact ⟨k + 1, by omega, by go_num, HO, hB⟩
        case measure => simp [intOf]; omega
      · have HO : Hid (¬ cntOk f n) := Lib.hid fun h => hx (h k hkn)
        clear hok
        by_cases x1 : f k < 0
        · clear hx
          go_wp2
          go_ret
          exact ⟨Or.inr ⟨HO.out, rfl⟩, hB.out⟩
        · have x2 : 65535 < f k := by omega
          clear hx
          go_wp2
          go_ret
          exact ⟨Or.inr ⟨HO.out, rfl⟩, hB.out⟩
    · have e : k = n := by omega
      subst e
      have HO := Lib.hid hok.out
      go_wp2
      go_ret
      exact ⟨Or.inl ⟨HO.out, rfl⟩, hB.out⟩

theorem picE_ok (b o : Nat) (W H : Int) (f : Nat → Int) (a : Option Addr) (n cap : Nat) (w : World) (h : PicAt w b o W H a n cap f) (g : picG W H n f) :
    Calls Tryz.prog 26 #[.pointer (some ⟨b, o, none⟩)] w fun e w' => e = .returned (.int .i64 0) ∧ Below w.heap.size w w' := by
  obtain ⟨w1, w2, h1, h2, c4, c⟩ := g
  refine (picE_row b o W H f a n cap w h (by omega) (by omega) (by omega) (by omega) c4).mono ?_
  rintro e w' ⟨⟨_, h⟩ | ⟨h, _⟩, hb⟩
  · exact ⟨h, hb⟩
  · exact absurd c h
theorem picE_bad (b o : Nat) (W H : Int) (f : Nat → Int) (a : Option Addr) (n cap : Nat) (w : World) (h : PicAt w b o W H a n cap f) (hn : n ≤ 9223372036854775807) (g : ¬ picG W H n f) :
    Calls Tryz.prog 26 #[.pointer (some ⟨b, o, none⟩)] w fun e w' => e = .returned (.int .i64 (picB W H + 1 : Nat)) ∧ Below w.heap.size w w' := by
  by_cases c0 : 256 < W
  · rw [show picB W H = 1 from if_pos (Or.inl c0)]; exact picE_1 b o W H f a n cap w h c0
  by_cases c1 : 256 < H
  · rw [show picB W H = 1 from if_pos (Or.inr c1)]; exact picE_2 b o W H f a n cap w h c0 c1
  rw [show picB W H = 4 from if_neg (by omega)]
  by_cases c2 : W < 1
  · exact picE_3 b o W H f a n cap w h c0 c1 c2
  by_cases c3 : H < 1
  · exact picE_4 b o W H f a n cap w h c0 c1 c2 c3
  by_cases c4 : (n : Int) = W * H
  · refine (picE_row b o W H f a n cap w h c0 c1 c2 c3 c4).mono ?_
    rintro e w' ⟨⟨h, _⟩ | ⟨_, h⟩, hb⟩
    · exact absurd ⟨by omega, by omega, by omega, by omega, c4, h⟩ g
    · exact ⟨h, hb⟩
  · exact picE_5 b o W H f a n cap w h c0 c1 c2 c3 hn c4

theorem small_nil (w : World) :
    Calls Tryz.prog 6 #[.pointer none] w fun e w' => e = .returned (.bool false) ∧ w = w' := by
  go_enter Tryz.func6, Tryz.ntmps6
  go_wp2
  go_ret
  exact ⟨rfl, rfl⟩
theorem small_pic (b o : Nat) (W H : Int) (f : Nat → Int) (a : Option Addr) (n cap : Nat) (w : World) (h : PicAt w b o W H a n cap f) :
    Calls Tryz.prog 6 #[.pointer (some ⟨b, o, none⟩)] w fun e w' => e = .returned (.bool (decide ((n : Int) ≤ 700))) ∧ w = w' := by
  obtain ⟨_, _, k2, _⟩ := h
  go_enter Tryz.func6, Tryz.ntmps6
  go_wp2
  go_ret
  exact ⟨by simp, rfl⟩
end Go.Proofs.YtjcmpkkflboaoaaGreatDoor
