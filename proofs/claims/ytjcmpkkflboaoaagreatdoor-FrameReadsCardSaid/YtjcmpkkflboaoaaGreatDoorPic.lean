/- Pictures: what frame.Valid and the reference's PictureError answer. -/
import Derived.Test.YtjcmpkkflboaoaaGreatDoorInts
namespace Go.Proofs.YtjcmpkkflboaoaaGreatDoor
open Go.RowKit

/-- The counts are right. -/
def cntOk (f : Nat → Int) (n : Nat) : Prop := ∀ j, j < n → 0 ≤ f j ∧ f j ≤ 65535
/-- The picture is right. -/
def picG (W H : Int) (n : Nat) (f : Nat → Int) : Prop := 1 ≤ W ∧ W ≤ 256 ∧ 1 ≤ H ∧ H ≤ 256 ∧ (n : Int) = W * H ∧ cntOk f n

theorem far_any (x : Int) (w : World) :
    Calls Tryz.prog 40 #[.int .i64 x] w fun e w' => e = .returned (.bool (decide (x < 0) || decide (65535 < x))) ∧ w = w' := by
  go_enter Tryz.func40, Tryz.ntmps40
  by_cases c : x < 0
  · have b : decide (x < 0) = true := by simpa using c
    rw [b]
    go_wp2
    go_ret
    exact ⟨rfl, rfl⟩
  · have b : decide (x < 0) = false := by simpa using c
    rw [b]
    go_wp2
    go_ret
    exact ⟨rfl, rfl⟩

theorem index_any (f : Nat → Int) (a : Option Addr) (len cap : Nat) (hl : len ≤ 1000000) (w : World) (h : IRow w a len f) :
    Calls Tryz.prog 56 #[.slice a len cap, .func (.func 40) #[] #[]] w fun e w' => (∃ r : Int, e = .returned (.int .i64 r) ∧ -1 ≤ r ∧ (r < 0 ↔ cntOk f len)) ∧ w = w' := by
  have HA := Lib.hid (fun j (hj : j < len) => h.at hj)
  clear h
  go_enter Tryz.func56, Tryz.ntmps56
  go_wp2
  go_loopw [8] (fun i wr => ∃ k : Nat, k ≤ len ∧ i = .int .i64 k ∧ Hid (cntOk f k) ∧ w = wr) (fun i _ => len - (intOf i).toNat)
  case atStart => exact ⟨0, Nat.zero_le _, rfl, fun j hj => absurd hj (Nat.not_lt_zero _), rfl⟩
  case round =>
    obtain ⟨k, hk, rfl, hok, rfl⟩ := hrel
    by_cases hlt : k < len
    · obtain ⟨b, o, rfl, _, c1⟩ := HA.out k hlt
      by_cases hx : 0 ≤ f k ∧ f k ≤ 65535
      · have b0 : (decide (f k < 0) || decide (65535 < f k)) = false := by simp; omega
        have HO : Hid (cntOk f (k + 1)) := Lib.hid fun j hj => by
          by_cases e : j = k
          · rw [e]; exact hx
          · exact hok.out j (by omega)
        clear hx hok
        go_wp2_with (first | (go_at_call 40; refine (far_any (f k) _).mono ?_; rintro e w1 ⟨rfl, rfl⟩; rw [b0]) | fail)
        go_roundw
        case rel => exact ⟨k + 1, by omega, by go_num, HO, by simp⟩
        case measure => simp [intOf]; omega
      · have b0 : (decide (f k < 0) || decide (65535 < f k)) = true := by simp; omega
        have HO : Hid (¬ cntOk f len) := Lib.hid fun h => hx (h k hlt)
        clear hx hok
        go_wp2_with (first | (go_at_call 40; refine (far_any (f k) _).mono ?_; rintro e w1 ⟨rfl, rfl⟩; rw [b0]) | fail)
        go_ret
        exact ⟨⟨_, rfl, by omega, ⟨fun h => by omega, fun h => absurd h HO.out⟩⟩, rfl⟩
    · have e : k = len := by omega
      subst e
      have HO := Lib.hid hok.out
      go_wp2
      go_ret
      exact ⟨⟨_, rfl, by omega, ⟨fun _ => HO.out, fun _ => by omega⟩⟩, rfl⟩

theorem contains_any (f : Nat → Int) (a : Option Addr) (len cap : Nat) (hl : len ≤ 1000000) (w : World) (h : IRow w a len f) :
    Calls Tryz.prog 39 #[.slice a len cap, .func (.func 40) #[] #[]] w fun e w' => (∃ b : Bool, e = .returned (.bool b) ∧ (b = false ↔ cntOk f len)) ∧ w = w' := by
  have HI := Lib.hid (index_any f a len cap hl w h)
  clear h
  go_enter Tryz.func39, Tryz.ntmps39
  go_wp2_with fail
  refine HI.out.mono ?_; rintro e w1 ⟨⟨r, rfl, h1, h2⟩, rfl⟩
  have H2 := Lib.hid h2
  clear h2 HI
  by_cases c : r < 0
  · have b : decide (0 ≤ r) = false := by simp; omega
    have H3 := Lib.hid (H2.out.1 c)
    go_wp2
    go_ret
    exact ⟨⟨false, rfl, ⟨fun _ => H3.out, fun _ => rfl⟩⟩, rfl⟩
  · have b : decide (0 ≤ r) = true := by simp; omega
    have H3 : Hid (¬ cntOk f len) := Lib.hid fun h => c (H2.out.2 h)
    go_wp2
    go_ret
    exact ⟨⟨true, rfl, ⟨fun h => (by cases h), fun h => absurd h H3.out⟩⟩, rfl⟩

/-! ### Valid -/
theorem validP_1 (ad : Nat → Addr) (W H : Int) (f : Nat → Int) (a : Option Addr) (n cap : Nat) (w : World) (he : Errs w ad [1, 4]) (h : IRow w a n f) (c : 256 < W) :
    Calls Tryz.prog 16 #[.agg #[.int .i64 W, .int .i64 H, .slice a n cap]] w fun e w' => e = .returned (errV ad 1) ∧ Below w.heap.size w w' := by
  have g1 : (w.alloc (.cells #[.int .i64 W, .int .i64 H, .slice a n cap] 33)).cell? ⟨0, 0, none⟩ = some (.iface 170 (.pointer (some (ad 1)))) := by rw [World.cell?_alloc_lt _ _ ⟨0, 0, none⟩ (cell_lt (he 1 (by decide)))]; exact he 1 (by decide)
  clear he h
  unfold errV
  go_enter Tryz.func16, Tryz.ntmps16
  go_wp2
  go_ret
  exact ⟨rfl, by go_grown⟩

theorem validP_2 (ad : Nat → Addr) (W H : Int) (f : Nat → Int) (a : Option Addr) (n cap : Nat) (w : World) (he : Errs w ad [1, 4]) (h : IRow w a n f) (c0 : ¬ 256 < W) (c : 256 < H) :
    Calls Tryz.prog 16 #[.agg #[.int .i64 W, .int .i64 H, .slice a n cap]] w fun e w' => e = .returned (errV ad 1) ∧ Below w.heap.size w w' := by
  have g1 : (w.alloc (.cells #[.int .i64 W, .int .i64 H, .slice a n cap] 33)).cell? ⟨0, 0, none⟩ = some (.iface 170 (.pointer (some (ad 1)))) := by rw [World.cell?_alloc_lt _ _ ⟨0, 0, none⟩ (cell_lt (he 1 (by decide)))]; exact he 1 (by decide)
  clear he h
  unfold errV
  go_enter Tryz.func16, Tryz.ntmps16
  go_wp2
  go_ret
  exact ⟨rfl, by go_grown⟩

theorem validP_3 (ad : Nat → Addr) (W H : Int) (f : Nat → Int) (a : Option Addr) (n cap : Nat) (w : World) (he : Errs w ad [1, 4]) (h : IRow w a n f) (c0 : ¬ 256 < W) (c1 : ¬ 256 < H) (c : W < 1) :
    Calls Tryz.prog 16 #[.agg #[.int .i64 W, .int .i64 H, .slice a n cap]] w fun e w' => e = .returned (errV ad 4) ∧ Below w.heap.size w w' := by
  have g4 : (w.alloc (.cells #[.int .i64 W, .int .i64 H, .slice a n cap] 33)).cell? ⟨4, 0, none⟩ = some (.iface 170 (.pointer (some (ad 4)))) := by rw [World.cell?_alloc_lt _ _ ⟨4, 0, none⟩ (cell_lt (he 4 (by decide)))]; exact he 4 (by decide)
  clear he h
  unfold errV
  go_enter Tryz.func16, Tryz.ntmps16
  go_wp2
  go_ret
  exact ⟨rfl, by go_grown⟩

theorem validP_4 (ad : Nat → Addr) (W H : Int) (f : Nat → Int) (a : Option Addr) (n cap : Nat) (w : World) (he : Errs w ad [1, 4]) (h : IRow w a n f) (c0 : ¬ 256 < W) (c1 : ¬ 256 < H) (c2 : ¬ W < 1) (c : H < 1) :
    Calls Tryz.prog 16 #[.agg #[.int .i64 W, .int .i64 H, .slice a n cap]] w fun e w' => e = .returned (errV ad 4) ∧ Below w.heap.size w w' := by
  have g4 : (w.alloc (.cells #[.int .i64 W, .int .i64 H, .slice a n cap] 33)).cell? ⟨4, 0, none⟩ = some (.iface 170 (.pointer (some (ad 4)))) := by rw [World.cell?_alloc_lt _ _ ⟨4, 0, none⟩ (cell_lt (he 4 (by decide)))]; exact he 4 (by decide)
  clear he h
  unfold errV
  go_enter Tryz.func16, Tryz.ntmps16
  go_wp2
  go_ret
  exact ⟨rfl, by go_grown⟩

theorem validP_5 (ad : Nat → Addr) (W H : Int) (f : Nat → Int) (a : Option Addr) (n cap : Nat) (w : World) (he : Errs w ad [1, 4]) (h : IRow w a n f) (c0 : ¬ 256 < W) (c1 : ¬ 256 < H) (c2 : ¬ W < 1) (c3 : ¬ H < 1) (hn : n ≤ 9223372036854775807) (c : (n : Int) ≠ W * H) :
    Calls Tryz.prog 16 #[.agg #[.int .i64 W, .int .i64 H, .slice a n cap]] w fun e w' => e = .returned (errV ad 4) ∧ Below w.heap.size w w' := by
  have g4 : (w.alloc (.cells #[.int .i64 W, .int .i64 H, .slice a n cap] 33)).cell? ⟨4, 0, none⟩ = some (.iface 170 (.pointer (some (ad 4)))) := by rw [World.cell?_alloc_lt _ _ ⟨4, 0, none⟩ (cell_lt (he 4 (by decide)))]; exact he 4 (by decide)
  have p1 : 1 ≤ W * H := by
    have := Int.mul_le_mul (show (1 : Int) ≤ W by omega) (show (1 : Int) ≤ H by omega) (by decide) (by omega)
    omega
  have p2 : W * H ≤ 65536 := by
    have := Int.mul_le_mul (show W ≤ (256 : Int) by omega) (show H ≤ (256 : Int) by omega) (by omega) (by decide)
    omega
  have b5 : ((n : Int) != W * H) = true := by rw [bne_iff_ne]; exact c
  clear he h c
  unfold errV
  go_enter Tryz.func16, Tryz.ntmps16
  go_wp2
  go_ret
  exact ⟨rfl, by go_grown⟩

theorem validP_6 (ad : Nat → Addr) (W H : Int) (f : Nat → Int) (a : Option Addr) (n cap : Nat) (w : World) (he : Errs w ad [1, 4]) (h : IRow w a n f) (c0 : ¬ 256 < W) (c1 : ¬ 256 < H) (c2 : ¬ W < 1) (c3 : ¬ H < 1) (c4 : (n : Int) = W * H) (c : ¬ cntOk f n) :
    Calls Tryz.prog 16 #[.agg #[.int .i64 W, .int .i64 H, .slice a n cap]] w fun e w' => e = .returned (errV ad 4) ∧ Below w.heap.size w w' := by
  have g4 : (w.alloc (.cells #[.int .i64 W, .int .i64 H, .slice a n cap] 33)).cell? ⟨4, 0, none⟩ = some (.iface 170 (.pointer (some (ad 4)))) := by rw [World.cell?_alloc_lt _ _ ⟨4, 0, none⟩ (cell_lt (he 4 (by decide)))]; exact he 4 (by decide)
  have p1 : 1 ≤ W * H := by
    have := Int.mul_le_mul (show (1 : Int) ≤ W by omega) (show (1 : Int) ≤ H by omega) (by decide) (by omega)
    omega
  have p2 : W * H ≤ 65536 := by
    have := Int.mul_le_mul (show W ≤ (256 : Int) by omega) (show H ≤ (256 : Int) by omega) (by omega) (by decide)
    omega
  have b5 : ((n : Int) != W * H) = false := by rw [bne_eq_false_iff_eq]; exact c4
  have hn : n ≤ 1000000 := by omega
  have HC := Lib.hid (contains_any f a n cap hn (w.alloc (.cells #[.int .i64 W, .int .i64 H, .slice a n cap] 33)) (h.below ((Below.refl _ _).alloc (Nat.le_refl _) _)))
  have HN := Lib.hid c
  clear he h c c4
  unfold errV
  go_enter Tryz.func16, Tryz.ntmps16
  go_wp2_with fail
  refine HC.out.mono ?_; rintro e w1 ⟨⟨b, rfl, hb⟩, rfl⟩
  have hbt : b = true := by cases b with
    | true => rfl
    | false => exact absurd (hb.1 rfl) HN.out
  subst hbt
  clear hb HC HN
  go_wp2
  go_ret
  exact ⟨rfl, by go_grown⟩

theorem validP_ok (ad : Nat → Addr) (W H : Int) (f : Nat → Int) (a : Option Addr) (n cap : Nat) (w : World) (he : Errs w ad [1, 4]) (h : IRow w a n f) (g : picG W H n f) :
    Calls Tryz.prog 16 #[.agg #[.int .i64 W, .int .i64 H, .slice a n cap]] w fun e w' => e = .returned .nilIface ∧ Below w.heap.size w w' := by
  obtain ⟨w1, w2, h1, h2, c4, c⟩ := g
  have p1 : 1 ≤ W * H := by
    have := Int.mul_le_mul (show (1 : Int) ≤ W by omega) (show (1 : Int) ≤ H by omega) (by decide) (by omega)
    omega
  have p2 : W * H ≤ 65536 := by
    have := Int.mul_le_mul (show W ≤ (256 : Int) by omega) (show H ≤ (256 : Int) by omega) (by omega) (by decide)
    omega
  have b5 : ((n : Int) != W * H) = false := by rw [bne_eq_false_iff_eq]; exact c4
  have hn : n ≤ 1000000 := by omega
  have HC := Lib.hid (contains_any f a n cap hn (w.alloc (.cells #[.int .i64 W, .int .i64 H, .slice a n cap] 33)) (h.below ((Below.refl _ _).alloc (Nat.le_refl _) _)))
  have HN := Lib.hid c
  clear he h c c4
  go_enter Tryz.func16, Tryz.ntmps16
  go_wp2_with fail
  refine HC.out.mono ?_; rintro e w1 ⟨⟨b, rfl, hb⟩, rfl⟩
  obtain rfl := hb.2 HN.out
  clear hb HC HN
  go_wp2
  go_ret
  exact ⟨rfl, by go_grown⟩

/-- Which error a picture has that is none. -/
def picB (W H : Int) : Nat := if 256 < W ∨ 256 < H then 1 else 4
theorem validP_bad (ad : Nat → Addr) (W H : Int) (f : Nat → Int) (a : Option Addr) (n cap : Nat) (w : World) (he : Errs w ad [1, 4]) (h : IRow w a n f) (hn : n ≤ 9223372036854775807) (g : ¬ picG W H n f) :
    Calls Tryz.prog 16 #[.agg #[.int .i64 W, .int .i64 H, .slice a n cap]] w fun e w' => e = .returned (errV ad (picB W H)) ∧ Below w.heap.size w w' := by
  by_cases c0 : 256 < W
  · rw [show picB W H = 1 from if_pos (Or.inl c0)]; exact validP_1 ad W H f a n cap w he h c0
  by_cases c1 : 256 < H
  · rw [show picB W H = 1 from if_pos (Or.inr c1)]; exact validP_2 ad W H f a n cap w he h c0 c1
  rw [show picB W H = 4 from if_neg (by omega)]
  by_cases c2 : W < 1
  · exact validP_3 ad W H f a n cap w he h c0 c1 c2
  by_cases c3 : H < 1
  · exact validP_4 ad W H f a n cap w he h c0 c1 c2 c3
  by_cases c4 : (n : Int) = W * H
  · exact validP_6 ad W H f a n cap w he h c0 c1 c2 c3 c4 (fun k => g ⟨by omega, by omega, by omega, by omega, c4, k⟩)
  · exact validP_5 ad W H f a n cap w he h c0 c1 c2 c3 hn c4
end Go.Proofs.YtjcmpkkflboaoaaGreatDoor
