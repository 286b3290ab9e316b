/- Rows of float64. -/
import Derived.Test.YtmkdcnemocdefaaGreatFmtVecP
import Derived.Test.YtmkdcnemocdefaaGreatFmtOrd
import Derived.WalkKit
import Derived.Handy
import Derived.Laws.FloatArith
import Derived.Lib.Hide
import Derived.Below
namespace Go.Proofs.YtmkdcnemocdefaaGreatFmt
open Go.RowKit

def FRow (w : World) (a : Option Addr) (len : Nat) (f : Nat → Nat) : Prop := len = 0 ∨ ∃ b off, a = some ⟨b, off, none⟩ ∧ ∀ j, j < len → w.cell? ⟨b, off + j, none⟩ = some (.float .f64 (f j))
theorem FRow.below {w w' : World} {a : Option Addr} {len : Nat} {f : Nat → Nat} (h : FRow w a len f) (hb : Below w.heap.size w w') : FRow w' a len f := by
  rcases h with h | ⟨b, off, e, hc⟩
  · exact Or.inl h
  · refine Or.inr ⟨b, off, e, fun j hj => ?_⟩
    have := hc j hj
    rw [hb.cell (p := ⟨b, off + j, none⟩) (cell_lt this)]; exact this
theorem FRow.at {w : World} {a : Option Addr} {len : Nat} {f : Nat → Nat} (h : FRow w a len f) {j : Nat} (hj : j < len) : ∃ b off, a = some ⟨b, off, none⟩ ∧ b < w.heap.size ∧ w.cell? ⟨b, off + j, none⟩ = some (.float .f64 (f j)) := by
  rcases h with h | ⟨b, off, e, hc⟩
  · omega
  · exact ⟨b, off, e, cell_lt (hc j hj), hc j hj⟩
end Go.Proofs.YtmkdcnemocdefaaGreatFmt

namespace Go.Proofs.YtmkdcnemocdefaaGreatFmt
open Go.RowKit Ieee

theorem sub_self_fin {x : Nat} (h : fieldW x < 2047) : double.sub x x = some 0 := by
  unfold Format.sub
  rw [read_fin h]
  simp only [Datum.opposite, Datum.sum]
  have e : ∀ (s : Bool) (m u : Nat), signed s m u + signed (!s) m u = 0 := fun s m u => by
    rw [signed_num, signed_num]
    cases s
    · simp; omega
    · simp; omega
  rw [e, if_pos rfl]
  cases sgnW x <;> rfl
theorem sub_self_non {x : Nat} (h : ¬ fieldW x < 2047) : double.sub x x = none := by
  have l := field_le x
  unfold Format.sub
  by_cases c : fracW x = 0
  · rw [read_inf (by omega) c]
    cases sgnW x <;> rfl
  · rw [read_nan (by omega) c]
    rfl
def nanW (x y : Nat) (w : World) : Nat := (Question.nanBits .f64 x y).cut (w.tape w.drawn (.nanBits .f64 x y))
theorem nanW_order (x y : Nat) (w : World) : FloatKind.f64.format.order (nanW x y w) 0 = none := by
  have h : ∃ s f, double.read (nanW x y w) = .nan s f := by
    unfold nanW
    generalize w.tape w.drawn (.nanBits .f64 x y) = t
    show ∃ s f, double.read ((t % 2) * 2 ^ 63 + 0x7ff0000000000000 + 1 + (t / 2) % (2 ^ 52 - 1)) = .nan s f
    have h1 : t % 2 < 2 := Nat.mod_lt _ (by decide)
    have h2 : (t / 2) % (2 ^ 52 - 1) < 2 ^ 52 - 1 := Nat.mod_lt _ (by decide)
    generalize t % 2 = a at *
    generalize (t / 2) % (2 ^ 52 - 1) = m at *
    have hs : double.signWeight = 9223372036854775808 := rfl
    have hb : double.binade = 4503599627370496 := rfl
    have hi : double.infRung = 9218868437227405312 := rfl
    have hr : (a * 2 ^ 63 + 0x7ff0000000000000 + 1 + m) % 9223372036854775808 = 9218868437227405313 + m := by omega
    unfold Format.read
    simp only [hs, hb, hi, hr]
    rw [if_neg (by omega), if_neg (by omega), if_neg (by omega)]
    exact ⟨_, _, rfl⟩
  obtain ⟨s, f, e⟩ := h
  show Datum.order (double.read (nanW x y w)) (double.read 0) = none
  rw [e]
  rfl
theorem finite_any (x : Nat) (w : World) :
    Calls Tryz.prog 18 #[.float .f64 x] w fun e w' => ∃ k, e = .returned (.bool (decide (fieldW x < 2047))) ∧ w' = w.drewN k := by
  by_cases c : fieldW x < 2047
  · have hs := run_float_arith (P := Tryz.prog) w .sub 23 .f64 x x 0 (sub_self_fin c)
    rw [decide_eq_true c]
    go_enter Tryz.func18, Tryz.ntmps18
    go_wp2
    go_ret
    exact ⟨0, rfl, rfl⟩
  · have hs : (binOp .sub 23 (.float .f64 x) (.float .f64 x)).run Tryz.prog w = .ok (.float .f64 (nanW x x w)) w.drew := by
      have h' : FloatKind.f64.format.sub x x = none := sub_self_non c
      simp [binOp, Op.floatArith, h', nanW, Question.forced]
    have ho := nanW_order x x w
    rw [decide_eq_false c]
    generalize nanW x x w = r at *
    go_enter Tryz.func18, Tryz.ntmps18
    go_wp2
    go_ret
    exact ⟨1, rfl, rfl⟩
end Go.Proofs.YtmkdcnemocdefaaGreatFmt
