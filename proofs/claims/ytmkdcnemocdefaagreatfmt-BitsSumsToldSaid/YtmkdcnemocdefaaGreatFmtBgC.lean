/- math/bits: sums and differences of words with a carry. -/
import Derived.Test.YtmkdcnemocdefaaGreatFmtTab
import Derived.Test.YtmkdcnemocdefaaGreatFmtShelf
import Derived.Shelf.Spec.BitsCarry
namespace Go.Proofs.YtmkdcnemocdefaaGreatFmt
open Go.RowKit

theorem bits_add (x y c : Nat) (hx : x < 18446744073709551616) (hy : y < 18446744073709551616) (hc : c ≤ 1) (w : World) :
    Calls Tryz.prog 59 #[.int .u64 x, .int .u64 y, .int .u64 c] w fun e w' =>
      e = .returned (.tuple #[.int .u64 (((x + y + c) % 18446744073709551616 : Nat) : Int), .int .u64 (((x + y + c) / 18446744073709551616 : Nat) : Int)]) ∧ w' = w := by
  have h1 : ∀ W, (callFunc 72 #[.int .u64 x, .int .u64 y, .int .u64 c]).run Tryz.prog W =
      .ok (.value (.tuple #[.int .u64 (((x + y + c) % 18446744073709551616 : Nat) : Int), .int .u64 (((x + y + c) / 18446744073709551616 : Nat) : Int)])) W := fun W => by
    rw [run_callFunc_extern Tryz.func72 (by kernel_rfl) (by kernel_rfl) (by kernel_rfl) (e := add64Entry) (by kernel_rfl), run_add64 x y c (by omega) (by omega) (by omega) (by omega)]
    simp only [Result.andThen]
    congr 5 <;> omega
  generalize hs : (((x + y + c) % 18446744073709551616 : Nat) : Int) = s at *
  generalize hd : (((x + y + c) / 18446744073709551616 : Nat) : Int) = d at *
  have b1 : 0 ≤ s ∧ s ≤ 18446744073709551615 := by omega
  have b2 : 0 ≤ d ∧ d ≤ 1 := by omega
  clear hs hd
  go_enter Tryz.func59, Tryz.ntmps59
  go_wp2
  go_ret2
  exact ⟨rfl, rfl⟩
theorem bits_sub (x y b : Nat) (hb : b ≤ 1) (w : World) :
    Calls Tryz.prog 69 #[.int .u64 x, .int .u64 y, .int .u64 b] w fun e w' =>
      e = .returned (.tuple #[.int .u64 (((x + 18446744073709551616 - y - b) % 18446744073709551616 : Nat) : Int), .int .u64 ((if x < y + b then 1 else 0 : Nat) : Int)]) ∧ w' = w := by
  have h1 : ∀ W, (callFunc 76 #[.int .u64 x, .int .u64 y, .int .u64 b]).run Tryz.prog W =
      .ok (.value (.tuple #[.int .u64 (((x + 18446744073709551616 - y - b) % 18446744073709551616 : Nat) : Int), .int .u64 ((if x < y + b then 1 else 0 : Nat) : Int)])) W := fun W => by
    rw [run_callFunc_extern Tryz.func76 (by kernel_rfl) (by kernel_rfl) (by kernel_rfl) (e := sub64Entry) (by kernel_rfl), run_sub64 x y b hb]
    rfl
  generalize hs : (((x + 18446744073709551616 - y - b) % 18446744073709551616 : Nat) : Int) = s at *
  generalize hd : ((if x < y + b then 1 else 0 : Nat) : Int) = d at *
  have b1 : 0 ≤ s ∧ s ≤ 18446744073709551615 := by omega
  have b2 : 0 ≤ d ∧ d ≤ 1 := by subst hd; split <;> simp
  clear hs hd
  go_enter Tryz.func69, Tryz.ntmps69
  go_wp2
  go_ret2
  exact ⟨rfl, rfl⟩
/-- x times y, and c besides: the high word and the low one. -/
theorem mulAdd_any (x y c : Nat) (hx : x < 18446744073709551616) (hy : y < 18446744073709551616) (hc : c < 18446744073709551616) (w : World) :
    Calls Tryz.prog 129 #[.int .u64 x, .int .u64 y, .int .u64 c] w fun e w' =>
      e = .returned (.tuple #[.int .u64 (((x * y + c) / 18446744073709551616 : Nat) : Int), .int .u64 (((x * y + c) % 18446744073709551616 : Nat) : Int)]) ∧ w' = w := by
  have HM := Lib.hid (fun W => Tryz.bits_Mul x y hx hy W)
  have hp : x * y ≤ 340282366920938463426481119284349108225 := Nat.mul_le_mul (Nat.le_of_lt_succ hx) (Nat.le_of_lt_succ hy)
  generalize x * y = p at *
  have HA := Lib.hid (fun W => bits_add (p % 18446744073709551616) c 0 (by omega) hc (by omega) W)
  have e1 : ((p / 18446744073709551616 : Nat) : Int) + (((p % 18446744073709551616 + c + 0) / 18446744073709551616 : Nat) : Int) = (((p + c) / 18446744073709551616 : Nat) : Int) := by omega
  have e2 : (((p % 18446744073709551616 + c + 0) % 18446744073709551616 : Nat) : Int) = (((p + c) % 18446744073709551616 : Nat) : Int) := by omega
  rw [e2] at HA
  generalize hh : ((p / 18446744073709551616 : Nat) : Int) = hi at *
  generalize hk : (((p % 18446744073709551616 + c + 0) / 18446744073709551616 : Nat) : Int) = k at *
  generalize hs : (((p + c) / 18446744073709551616 : Nat) : Int) = s at *
  generalize hl : (((p + c) % 18446744073709551616 : Nat) : Int) = l at *
  have b1 : 0 ≤ hi + k ∧ hi + k ≤ 18446744073709551615 := by omega
  clear hh hk hs hl hx hy hc hp e2
  go_enter Tryz.func129, Tryz.ntmps129
  go_wp2_with fail
  refine (HM.out _).mono ?_; rintro e w' ⟨rfl, rfl⟩
  go_wp2_with fail
  refine (HA.out _).mono ?_; rintro e w' ⟨rfl, rfl⟩
  go_wp2
  go_ret2
  exact ⟨rfl, rfl⟩
end Go.Proofs.YtmkdcnemocdefaaGreatFmt
