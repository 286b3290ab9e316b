/- Doubles taken apart: Abs, Signbit, IsNaN, IsInf, Frexp. -/
import Derived.Test.YtmkdcnemocdefaaGreatFmtOrd
import Derived.Test.YtmkdcnemocdefaaGreatFmtBitw
import Derived.Test.YtmkdcnemocdefaaGreatFmtFl
import Derived.Laws.Externs
namespace Go.Proofs.YtmkdcnemocdefaaGreatFmt
open Go.RowKit Ieee

@[go_sem] theorem unary_neg_float (k : FloatKind) (b : Nat) : Op.unary .neg (.float k b) = pure (.float k (Op.negFloat k b)) := rfl
@[go_sem] theorem run_float64bits {P : Program} {w : World} (x : Nat) : (Extern.MathFloatBits.float64bits #[.float .f64 x]).run P w = .ok (.int .u64 (x : Int)) w := rfl
@[go_sem] theorem run_float64frombits {P : Program} {w : World} (x : Int) : (Extern.MathFloatBits.float64frombits #[.int .u64 x]).run P w = .ok (.float .f64 x.toNat) w := rfl
theorem neg_word {b : Nat} (h : b < 18446744073709551616) : Op.negFloat .f64 b = negW b := by
  have ⟨p1, p2⟩ := Fl.neg_parts b
  have l : Fl.fneg b < 2 ^ 64 := Nat.xor_lt_two_pow h (by decide)
  show Fl.fneg b = negW b
  generalize Fl.fneg b = c at *
  unfold negW sgnW
  by_cases d : b / 9223372036854775808 % 2 = 1
  · rw [if_pos (by simpa using d)]
    rw [beq_iff_eq.2 d] at p2
    have : ¬ (c / 9223372036854775808 % 2 = 1) := by simpa using p2
    omega
  · rw [if_neg (by simpa using d)]
    rw [beq_eq_false_iff_ne.2 d] at p2
    have : c / 9223372036854775808 % 2 = 1 := by simpa using p2
    omega
/-- The size's word. -/
def absW (b : Nat) : Nat := b % 9223372036854775808
theorem absW_parts (b : Nat) : fieldW (absW b) = fieldW b ∧ fracW (absW b) = fracW b ∧ sgnW (absW b) = false := by
  unfold absW fieldW fracW sgnW
  refine ⟨by omega, by omega, ?_⟩
  have : b % 9223372036854775808 / 9223372036854775808 = 0 := Nat.div_eq_of_lt (Nat.mod_lt _ (by decide))
  rw [this]; rfl
theorem andNot_sign (b : Nat) (h : b < 18446744073709551616) : bits .andNot .u64 (b : Int) 9223372036854775808 = (absW b : Int) := by
  have r := u64_andNot_nat b 9223372036854775808 h (by decide)
  have m := Nat.and_two_pow_sub_one_eq_mod b 63
  rw [show (2 : Nat) ^ 63 - 1 = 18446744073709551615 - 9223372036854775808 by rfl] at m
  rw [m] at r
  exact r
theorem abs_any (b : Nat) (h : b < 18446744073709551616) (w : World) :
    Calls Tryz.prog 31 #[.float .f64 b] w fun e w' => e = .returned (.float .f64 (absW b)) ∧ w' = w := by
  have h1 := @run_callFunc_extern Tryz.prog 17 _ Extern.MathFloatBits.float64bits Tryz.func17 (by kernel_rfl) (by kernel_rfl) (by kernel_rfl) (by kernel_rfl)
  have h2 := @run_callFunc_extern Tryz.prog 22 _ Extern.MathFloatBits.float64frombits Tryz.func22 (by kernel_rfl) (by kernel_rfl) (by kernel_rfl) (by kernel_rfl)
  have h3 := andNot_sign b h
  go_enter Tryz.func31, Tryz.ntmps31
  go_wp2
  go_ret
  exact ⟨rfl, rfl⟩
theorem signbit_any (b : Nat) (h : b < 18446744073709551616) (w : World) :
    Calls Tryz.prog 11 #[.float .f64 b] w fun e w' => e = .returned (.bool (sgnW b)) ∧ w' = w := by
  have h1 := @run_callFunc_extern Tryz.prog 17 _ Extern.MathFloatBits.float64bits Tryz.func17 (by kernel_rfl) (by kernel_rfl) (by kernel_rfl) (by kernel_rfl)
  by_cases c : b < 9223372036854775808
  · have hs : sgnW b = false := by
      unfold sgnW
      rw [Nat.div_eq_of_lt c]; rfl
    have hw : IntKind.i64.wrap (b : Int) = (b : Int) := IntWalk.i64_in _ (by omega)
    rw [hs]
    go_enter Tryz.func11, Tryz.ntmps11
    go_wp2
    go_ret
    exact ⟨rfl, rfl⟩
  · have hs : sgnW b = true := by
      unfold sgnW
      have : b / 9223372036854775808 = 1 := by omega
      rw [this]; rfl
    have hw : IntKind.i64.wrap (b : Int) = (b : Int) - 18446744073709551616 := by
      rw [IntKind.wrap_i64]; omega
    have hd : decide ((b : Int) - 18446744073709551616 < 0) = true := decide_eq_true (by omega)
    rw [hs]
    go_enter Tryz.func11, Tryz.ntmps11
    go_wp2
    go_ret
    exact ⟨rfl, rfl⟩
theorem isNaN_fin (b : Nat) (h : fieldW b < 2047 ∨ fracW b = 0) (w : World) :
    Calls Tryz.prog 37 #[.float .f64 b] w fun e w' => e = .returned (.bool false) ∧ w' = w := by
  have h1 := f_self h
  go_enter Tryz.func37, Tryz.ntmps37
  go_wp2
  go_ret
  exact ⟨rfl, rfl⟩
theorem isInf_p (b : Nat) (w : World) :
    Calls Tryz.prog 8 #[.float .f64 b, .int .i64 1] w fun e w' => e = .returned (.bool (FloatKind.f64.format.order b 9218868437227405311 == some .gt)) ∧ w' = w := by
  go_enter Tryz.func8, Tryz.ntmps8
  go_wp2
  go_ret
  exact ⟨rfl, rfl⟩
theorem isInf_n (b : Nat) (h : b < 18446744073709551616) (w : World) :
    Calls Tryz.prog 8 #[.float .f64 b, .int .i64 (-1)] w fun e w' => e = .returned (.bool (FloatKind.f64.format.order (negW b) 9218868437227405311 == some .gt)) ∧ w' = w := by
  have hn := neg_word h
  go_enter Tryz.func8, Tryz.ntmps8
  go_wp2
  go_ret
  exact ⟨rfl, rfl⟩
theorem isInf_0 (b : Nat) (h : b < 18446744073709551616) (hf : fieldW b < 2047) (w : World) :
    Calls Tryz.prog 8 #[.float .f64 b, .int .i64 0] w fun e w' => e = .returned (.bool false) ∧ w' = w := by
  have HA := Lib.hid (fun W => abs_any b h W)
  have hp := absW_parts b
  have hg := f_gt (b := absW b) (c := 9218868437227405311) (by rw [hp.1]; exact hf) (by decide +kernel)
  have hm := num_max (b := absW b) (by rw [hp.1]; exact hf)
  rw [decide_eq_false hm] at hg
  clear hp hm
  go_enter Tryz.func8, Tryz.ntmps8
  go_wp2_with fail
  refine (HA.out _).mono ?_; rintro e w1 ⟨rfl, rfl⟩
  go_wp2
  go_ret
  exact ⟨rfl, rfl⟩
end Go.Proofs.YtmkdcnemocdefaaGreatFmt
