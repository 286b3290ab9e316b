/- Float64's small parts: msb64, Inf, the word's three parts; plain. -/
import Derived.Test.YtmkdcnemocdefaaGreatFmtRnd0
namespace Go.Proofs.YtmkdcnemocdefaaGreatFmt
open Go.RowKit

theorem msb64_one (g c v : Nat) (f : Nat → Nat) (w : World) (hb : Blk w g c f) (hc : 1 ≤ c) (hv : f 0 = v) :
    Calls Tryz.prog 41 #[.slice (some ⟨g, 0, none⟩) 1 c] w fun e w' => e = .returned (.int .u64 (v : Int)) ∧ w' = w := by
  have c0 := hb.cell 0 (by omega)
  rw [hv] at c0
  clear hb hv
  go_enter Tryz.func41, Tryz.ntmps41
  go_wp2
  go_ret
  exact ⟨rfl, rfl⟩
theorem inf_pos (w : World) :
    Calls Tryz.prog 13 #[.int .i64 1] w fun e w' => e = .returned (.float .f64 9218868437227405312) ∧ w' = w := by
  have h2 := @run_callFunc_extern Tryz.prog 22 _ Extern.MathFloatBits.float64frombits Tryz.func22 (by kernel_rfl) (by kernel_rfl) (by kernel_rfl) (by kernel_rfl)
  go_enter Tryz.func13, Tryz.ntmps13
  go_wp2
  go_ret
  exact ⟨rfl, rfl⟩
theorem inf_neg (w : World) :
    Calls Tryz.prog 13 #[.int .i64 (-1)] w fun e w' => e = .returned (.float .f64 18442240474082181120) ∧ w' = w := by
  have h2 := @run_callFunc_extern Tryz.prog 22 _ Extern.MathFloatBits.float64frombits Tryz.func22 (by kernel_rfl) (by kernel_rfl) (by kernel_rfl) (by kernel_rfl)
  go_enter Tryz.func13, Tryz.ntmps13
  go_wp2
  go_ret
  exact ⟨rfl, rfl⟩
/-- A sign, an exponent field and a mantissa, side by side. -/
theorem or_word (s x m : Nat) (hs : s = 0 ∨ s = 9223372036854775808) (hx : x ≤ 2046) (hm : m < 4503599627370496) :
    bits .or .u64 (bits .or .u64 (s : Int) ((x * 4503599627370496 : Nat) : Int)) (m : Int) = ((s + x * 4503599627370496 + m : Nat) : Int) := by
  have e1 : s ||| (x * 4503599627370496) = s + x * 4503599627370496 := by
    rcases hs with rfl | rfl
    · rw [Nat.zero_or, Nat.zero_add]
    · have k := or_split 1 (x * 4503599627370496) 63 (by omega)
      rw [Nat.one_mul, show (2 : Nat) ^ 63 = 9223372036854775808 by rfl] at k
      exact k
  have r1 := u64_or_nat s (x * 4503599627370496) (by omega) (by omega)
  rw [e1] at r1
  have e2 : (s + x * 4503599627370496) ||| m = s + x * 4503599627370496 + m := by
    obtain ⟨a, ha⟩ : ∃ a, s + x * 4503599627370496 = a * 2 ^ 52 := by
      rcases hs with rfl | rfl
      · exact ⟨x, by omega⟩
      · exact ⟨2048 + x, by omega⟩
    rw [ha]
    exact or_split a m 52 (by omega)
  have r2 := u64_or_nat (s + x * 4503599627370496) m (by omega) (by omega)
  rw [e2] at r2
  rw [← r2]
  exact congrArg (fun t => bits .or .u64 t (m : Int)) r1
theorem and_mant (v : Nat) (h : v < 18446744073709551616) : bits .and .u64 ((v / 2048 : Nat) : Int) 4503599627370495 = ((v / 2048 % 4503599627370496 : Nat) : Int) := by
  have r := u64_and_nat (v / 2048) 4503599627370495 (by omega) (by decide)
  refine Eq.trans r ?_
  have m := Nat.and_two_pow_sub_one_eq_mod (v / 2048) 52
  rw [show 2 ^ 52 - 1 = 4503599627370495 by decide, show 2 ^ 52 = 4503599627370496 by decide] at m
  rw [m]
/-- The rounded word and its exponent, as the double's word. -/
theorem dbl_word {K N n A S E W : Nat} {E1 : Int} (h : Man K N n A S) (hE : E = A + 64 * n - K) (hr : RndW (keptQ N (64 * n - keepN E)) (keepN E) (64 - keepN E) W ((E : Int) - 1074) E1) :
    ∃ E' : Nat, E1 = (E' : Int) - 1074 ∧ finW W E' = rndW S ∧ E ≤ E' ∧ E' ≤ E + 1 ∧ W < 18446744073709551616 := by
  have e1 : 1 ≤ E := by have := h.top; omega
  have k1 : keepN E ≤ 53 := by unfold keepN; omega
  have e64 := pz_64 k1 rfl
  rcases hr with ⟨a, b, c⟩ | ⟨a, b, c⟩
  · refine ⟨E, c, fin_word h hE (Or.inl ⟨a, b, rfl⟩), Nat.le_refl _, by omega, ?_⟩
    rw [b, ← e64]
    exact Nat.mul_lt_mul_of_pos_right a (Nat.two_pow_pos _)
  · exact ⟨E + 1, by omega, fin_word h hE (Or.inr ⟨a, b, rfl⟩), by omega, by omega, by omega⟩
end Go.Proofs.YtmkdcnemocdefaaGreatFmt
