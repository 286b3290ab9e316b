/- SameBits, Length and LengthOf, where an operation may give a NaN. -/
import Derived.Test.YtbafddlkeocpeaaGreatDoorSoft
import Derived.Test.YtbafddlkeocpeaaGreatDoorSin
import Derived.Deep.RegionHeld3
import Derived.WalkLawsBesides
namespace Go.Proofs.YtbafddlkeocpeaaGreatDoor
open Go.RowKit Ieee

@[go_sem, simp] theorem cell_opW (o : Option Nat) (w : World) (a : Addr) : (opW o w).cell? a = w.cell? a := by unfold opW; split <;> rfl
@[simp] theorem size_opW (o : Option Nat) (w : World) : (opW o w).heap.size = w.heap.size := by unfold opW; split <;> rfl

theorem order_nan {x : Nat} (h : isNan x = true) : FloatKind.f64.format.order x x = none := by
  obtain ⟨s, f, e⟩ := nan_read h
  show Datum.order (double.read x) (double.read x) = none
  rw [e]; rfl
theorem order_not {x : Nat} (h : ¬ isNan x = true) : FloatKind.f64.format.order x x = some .eq := by
  show Datum.order (double.read x) (double.read x) = some .eq
  unfold isNan at h
  cases e : double.read x with
  | nan s f => rw [e] at h; exact absurd rfl h
  | number s m p => simp [Datum.order]
  | infinity s => simp [Datum.order]

theorem same_eq (v : Nat) (h : ¬ isNan v = true) (w : World) :
    Calls Tryz.prog 7 #[.float .f64 v, .float .f64 v] w fun e w' => e = .returned (.bool true) ∧ Below w.heap.size w w' := by
  have ho : FloatKind.f64.format.order v v = some .eq := order_not h
  have h32 := @run_callFunc_extern Tryz.prog 16 _ Extern.MathFloatBits.float64bits Tryz.func16 (by kernel_rfl) (by kernel_rfl) (by kernel_rfl) (by kernel_rfl)
  have h33 : ∀ W : World, (Extern.MathFloatBits.float64bits #[.float .f64 v]).run Tryz.prog W = .ok (.int .u64 v) W := fun _ => rfl
  clear h
  go_enter Tryz.func7, Tryz.ntmps7
  go_wp2
  go_ret
  exact ⟨rfl, by go_grown⟩
theorem same_nan (a b : Nat) (ha : isNan a = true) (hb : isNan b = true) (w : World) :
    Calls Tryz.prog 7 #[.float .f64 a, .float .f64 b] w fun e w' => e = .returned (.bool true) ∧ Below w.heap.size w w' := by
  have h1 : FloatKind.f64.format.order a a = none := order_nan ha
  have h2 : FloatKind.f64.format.order b b = none := order_nan hb
  clear ha hb
  go_enter Tryz.func7, Tryz.ntmps7
  go_wp2
  go_ret
  exact ⟨rfl, by go_grown⟩
theorem same_any (o : Option Nat) (a b : Nat) (ha : Sft o a) (hb : Sft o b) (w : World) :
    Calls Tryz.prog 7 #[.float .f64 a, .float .f64 b] w fun e w' => e = .returned (.bool true) ∧ Below w.heap.size w w' := by
  cases o with
  | none => exact same_nan a b ha hb w
  | some v =>
    have e1 : a = v := ha
    have e2 : b = v := hb
    rw [e1, e2]
    by_cases h : isNan v = true
    · exact same_nan v v h h w
    · exact same_eq v h w

theorem plus_soft (a y z : Nat) (w : World) :
    Calls Tryz.prog 19 #[.float .f64 a, .float .f64 y, .float .f64 z] w fun e w' => ∃ r, e = .returned (.float .f64 r) ∧ (∀ oa, Sft oa a → Sft (oa.bind fun a => (double.mul y z).bind fun b => double.add a b) r) ∧ Below w.heap.size w w' := by
  refine (plus_any a y z w).mono ?_
  rintro e w' ⟨W, he, hb⟩
  exact ⟨_, he, fun oa ha => sft_add ha (sft_op _ _ _ _) _, hb⟩
end Go.Proofs.YtbafddlkeocpeaaGreatDoor
