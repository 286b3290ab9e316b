/- Numbers where an operation may give a NaN that is drawn; SameBits. -/
import Derived.Test.YtbafddlkeocpeaaGreatDoorRows
import Derived.WalkKit
import Derived.Handy
import Derived.Laws.FloatArith
import Derived.Lib.Hide
import Derived.Below
namespace Go.Proofs.YtbafddlkeocpeaaGreatDoor
open Go.RowKit Ieee

def isNan (x : Nat) : Bool := (double.read x).isNaN
def nanW (x y : Nat) (w : World) : Nat := (Question.nanBits .f64 x y).cut (w.tape w.drawn (.nanBits .f64 x y))
/-- What an operation gives, and the world behind it. -/
def opR (o : Option Nat) (x y : Nat) (w : World) : Nat := o.getD (nanW x y w)
def opW (o : Option Nat) (w : World) : World := if o.isSome then w else w.drew

theorem nanW_nan (x y : Nat) (w : World) : isNan (nanW x y w) = true := by
  unfold isNan nanW
  generalize w.tape w.drawn (.nanBits .f64 x y) = t
  show (double.read ((t % 2) * 2 ^ 63 + 0x7ff0000000000000 + 1 + (t / 2) % (2 ^ 52 - 1))).isNaN = true
  have h1 : t % 2 < 2 := Nat.mod_lt _ (by decide)
  have h2 : (t / 2) % (2 ^ 52 - 1) < 2 ^ 52 - 1 := Nat.mod_lt _ (by decide)
  generalize t % 2 = a at *
  generalize (t / 2) % (2 ^ 52 - 1) = m at *
  have hs : double.signWeight = 9223372036854775808 := rfl
  have hb : double.binade = 4503599627370496 := rfl
  have hi : double.infRung = 9218868437227405312 := rfl
  have hr : (a * 2 ^ 63 + 0x7ff0000000000000 + 1 + m) % 9223372036854775808 = 9218868437227405313 + m := by omega
  unfold Format.read
  simp only [hs, hb, hi, hr]
  rw [if_neg (by omega), if_neg (by omega), if_neg (by omega)]
  rfl

theorem nan_read {x : Nat} (h : isNan x = true) : ∃ s f, double.read x = .nan s f := by
  unfold isNan at h
  cases e : double.read x with
  | nan s f => exact ⟨s, f, rfl⟩
  | number _ _ _ => rw [e] at h; cases h
  | infinity _ => rw [e] at h; cases h
theorem mul_nanL {x y : Nat} (h : isNan x = true) : double.mul x y = none := by
  obtain ⟨s, f, e⟩ := nan_read h
  simp [Format.mul, e, Datum.product]
theorem mul_nanR {x y : Nat} (h : isNan y = true) : double.mul x y = none := by
  obtain ⟨s, f, e⟩ := nan_read h
  cases e2 : double.read x <;> simp [Format.mul, e, e2, Datum.product]
theorem add_nanL {x y : Nat} (h : isNan x = true) : double.add x y = none := by
  obtain ⟨s, f, e⟩ := nan_read h
  simp [Format.add, e, Datum.sum]
theorem add_nanR {x y : Nat} (h : isNan y = true) : double.add x y = none := by
  obtain ⟨s, f, e⟩ := nan_read h
  cases e2 : double.read x <;> simp [Format.add, e, e2, Datum.sum]
/-- A value as wanted: the word, or some NaN. -/
def Sft (o : Option Nat) (r : Nat) : Prop := match o with | some v => r = v | none => isNan r = true
theorem sft_op (o : Option Nat) (x y : Nat) (w : World) : Sft o (opR o x y w) := by
  cases o with
  | none => exact nanW_nan x y w
  | some v => rfl
theorem sft_mul {oa ob : Option Nat} {a b : Nat} (ha : Sft oa a) (hb : Sft ob b) (w : World) : Sft (oa.bind fun a => ob.bind fun b => double.mul a b) (opR (double.mul a b) a b w) := by
  cases oa with
  | none => rw [mul_nanL ha]; exact nanW_nan a b w
  | some v =>
    cases ob with
    | none => rw [mul_nanR hb]; exact nanW_nan a b w
    | some u => cases ha; cases hb; exact sft_op _ _ _ _
theorem sft_add {oa ob : Option Nat} {a b : Nat} (ha : Sft oa a) (hb : Sft ob b) (w : World) : Sft (oa.bind fun a => ob.bind fun b => double.add a b) (opR (double.add a b) a b w) := by
  cases oa with
  | none => rw [add_nanL ha]; exact nanW_nan a b w
  | some v =>
    cases ob with
    | none => rw [add_nanR hb]; exact nanW_nan a b w
    | some u => cases ha; cases hb; exact sft_op _ _ _ _
theorem run_mulS (x y : Nat) (w : World) : (binOp .mul 28 (.float .f64 x) (.float .f64 y)).run Tryz.prog w = .ok (.float .f64 (opR (double.mul x y) x y w)) (opW (double.mul x y) w) := by
  cases h : double.mul x y with
  | some r => exact run_float_arith w .mul _ .f64 x y r h
  | none =>
    have h' : FloatKind.f64.format.mul x y = none := h
    simp [binOp, Op.floatArith, h', opR, opW, nanW, Question.forced]
theorem run_addS (x y : Nat) (w : World) : (binOp .add 28 (.float .f64 x) (.float .f64 y)).run Tryz.prog w = .ok (.float .f64 (opR (double.add x y) x y w)) (opW (double.add x y) w) := by
  cases h : double.add x y with
  | some r => exact run_float_arith w .add _ .f64 x y r h
  | none =>
    have h' : FloatKind.f64.format.add x y = none := h
    simp [binOp, Op.floatArith, h', opR, opW, nanW, Question.forced]
theorem below_opW {B : Nat} {w w' : World} (h : Below B w w') (o : Option Nat) : Below B w (opW o w') := by
  unfold opW; split
  · exact h
  · exact h.drew

theorem plus_any (a y z : Nat) (w : World) :
    Calls Tryz.prog 19 #[.float .f64 a, .float .f64 y, .float .f64 z] w fun e w' => ∃ W, e = .returned (.float .f64 (opR (double.add a (opR (double.mul y z) y z w)) a (opR (double.mul y z) y z w) W)) ∧ Below w.heap.size w w' := by
  have hm := fun W => run_mulS y z W
  have ha := fun u W => run_addS a u W
  go_enter Tryz.func19, Tryz.ntmps19
  go_wp2
  go_ret
  exact ⟨_, rfl, below_opW (below_opW (Below.refl _ _) _) _⟩
end Go.Proofs.YtbafddlkeocpeaaGreatDoor
