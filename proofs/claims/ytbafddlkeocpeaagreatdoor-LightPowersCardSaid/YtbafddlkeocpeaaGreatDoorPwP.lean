/- The powers of waves, plain: what the program and its reference both come to. -/
import Derived.Test.YtbafddlkeocpeaaGreatDoorSer
import Derived.Test.YtbafddlkeocpeaaGreatDoorSame
namespace Go.Proofs.YtbafddlkeocpeaaGreatDoor
open Go.RowKit Ieee

theorem neg_read (x : Nat) : (double.read (Op.negFloat .f64 x)).isNaN = (double.read x).isNaN := by
  have e : Op.negFloat .f64 x % double.signWeight = x % double.signWeight := by
    show (x ^^^ 2 ^ 63) % 2 ^ 63 = x % 2 ^ 63
    rw [Nat.xor_mod_two_pow]; simp
  unfold Format.read
  simp only [e]
  split
  · rfl
  · split
    · rfl
    · split <;> rfl
theorem nan_neg {x : Nat} (h : isNan x = true) : isNan (Op.negFloat .f64 x) = true := by
  unfold isNan at *
  rw [neg_read]; exact h
theorem sft_neg {o : Option Nat} {x : Nat} (h : Sft o x) : Sft (o.map (Op.negFloat .f64)) (Op.negFloat .f64 x) := by
  cases o with
  | none => exact nan_neg h
  | some v => cases h; rfl

/-- The angle for a unit of time, times the time. -/
def angM (w t : Int) : Int := (nrm w * t) % 1296000000000
theorem angM_bd (w t : Int) : 0 ≤ angM w t ∧ angM w t < 1296000000000 := by unfold angM; omega
/-- The sums: where an operation gives no number, nothing. -/
def reO (f : Nat → Int) (l : Nat → Nat) (w : Int) : Nat → Option Nat
  | 0 => some 0
  | i + 1 => (reO f l w i).bind fun a => (double.mul (l i) (cosV (angM w (f i)))).bind fun b => double.add a b
def imO (f : Nat → Int) (l : Nat → Nat) (w : Int) : Nat → Option Nat
  | 0 => some 0
  | i + 1 => (imO f l w i).bind fun a => ((double.mul (l i) (sinV (angM w (f i)))).map (Op.negFloat .f64)).bind fun b => double.add a b
def sqO (o : Option Nat) : Option Nat := o.bind fun a => o.bind fun b => double.mul a b
def powO (f : Nat → Int) (l : Nat → Nat) (n : Nat) (w : Int) : Option Nat :=
  (sqO (reO f l w n)).bind fun a => (sqO (imO f l w n)).bind fun b => double.add a b

theorem sft_sq {o : Option Nat} {x : Nat} (h : Sft o x) (w : World) : Sft (sqO o) (opR (double.mul x x) x x w) := sft_mul h h w

theorem angles_eq (w t : Int) (h0 : 0 ≤ t) :
    (nrm w * (t.tdiv 1048576) % 1296000000000 * 1048576 % 1296000000000 + nrm w * (t.tmod 1048576) % 1296000000000) % 1296000000000 = angM w t := by
  unfold angM
  have e : t = t.tdiv 1048576 * 1048576 + t.tmod 1048576 := by rw [Int.tdiv_eq_ediv_of_nonneg h0, Int.tmod_eq_emod_of_nonneg h0]; omega
  conv => rhs; rw [e, Int.mul_add, ← Int.mul_assoc]
  simp [Int.add_emod, Int.mul_emod]
theorem angles_neg (w t n : Int) (h : n % 1296000000000 = angM w t) : (-n) % 1296000000000 = angM w (-t) := by
  unfold angM at *
  rw [Int.mul_neg]
  omega

/-- Which power is the best so far. -/
def bestL (x : Nat → Nat) : Nat → Option Nat
  | 0 => none
  | k + 1 =>
    if FloatKind.f64.format.order (x k) (x k) = some .eq then
      match bestL x k with
      | none => some k
      | some b => if FloatKind.f64.format.order (x k) (x b) = some .gt then some k else some b
    else bestL x k
theorem bestL_lt (x : Nat → Nat) : ∀ k b, bestL x k = some b → b < k
  | 0, b, h => by cases h
  | k + 1, b, h => by
    unfold bestL at h
    have ih := bestL_lt x k
    split at h
    · split at h
      · cases h; omega
      · split at h
        · cases h; omega
        · cases h; have := ih _ (by assumption); omega
    · have := ih _ h; omega
def bestI (o : Option Nat) : Int := match o with | none => -1 | some b => (b : Int)
end Go.Proofs.YtbafddlkeocpeaaGreatDoor
