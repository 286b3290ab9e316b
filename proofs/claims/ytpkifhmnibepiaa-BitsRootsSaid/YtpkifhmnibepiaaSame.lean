/- SameBits, Length and LengthOf, where an operation may give a NaN. -/
import Derived.Test.YtpkifhmnibepiaaSoft
import Derived.Deep.RegionHeld3
import Derived.WalkLawsBesides
namespace Go.Proofs.Ytpkifhmnibepiaa
open Go.RowKit Ieee

theorem below_step {a b c : World} (h : Below a.heap.size a b) (k : Below b.heap.size b c) : Below a.heap.size a c := h.trans (k.mono h.size)
@[go_sem] theorem run_store_float {P : Program} {w : World} {a : Addr} {m : Mode} (k : FloatKind) (b : Nat) : (store a (.float k b) m).run P w = stored P w a (.float k b) m := run_store P w a _ m rfl
@[go_sem, simp] theorem cell_opW (o : Option Nat) (w : World) (a : Addr) : (opW o w).cell? a = w.cell? a := by unfold opW; split <;> rfl
@[simp] theorem size_opW (o : Option Nat) (w : World) : (opW o w).heap.size = w.heap.size := by unfold opW; split <;> rfl

theorem order_nan {x : Nat} (h : isNan x = true) : FloatKind.f64.format.order x x = none := by
  obtain ⟨s, f, e⟩ := nan_read h
  show Datum.order (double.read x) (double.read x) = none
  rw [e]; rfl
theorem order_not {x : Nat} (h : ¬ isNan x = true) : FloatKind.f64.format.order x x = some .eq := by
  show Datum.order (double.read x) (double.read x) = some .eq
  unfold isNan at h
  cases e : double.read x with
  | nan s f => rw [e] at h; exact absurd rfl h
  | number s m p => simp [Datum.order]
  | infinity s => simp [Datum.order]

theorem same_eq (v : Nat) (h : ¬ isNan v = true) (w : World) :
    Calls Try.prog 6 #[.float .f64 v, .float .f64 v] w fun e w' => e = .returned (.bool true) ∧ Below w.heap.size w w' := by
  have ho : FloatKind.f64.format.order v v = some .eq := order_not h
  have h32 := @run_callFunc_extern Try.prog 14 _ Extern.MathFloatBits.float64bits Try.func14 (by kernel_rfl) (by kernel_rfl) (by kernel_rfl) (by kernel_rfl)
  have h33 : ∀ W : World, (Extern.MathFloatBits.float64bits #[.float .f64 v]).run Try.prog W = .ok (.int .u64 v) W := fun _ => rfl
  clear h
  go_enter Try.func6, Try.ntmps6
  go_wp2
  go_ret
  exact ⟨rfl, by go_grown⟩
theorem same_nan (a b : Nat) (ha : isNan a = true) (hb : isNan b = true) (w : World) :
    Calls Try.prog 6 #[.float .f64 a, .float .f64 b] w fun e w' => e = .returned (.bool true) ∧ Below w.heap.size w w' := by
  have h1 : FloatKind.f64.format.order a a = none := order_nan ha
  have h2 : FloatKind.f64.format.order b b = none := order_nan hb
  clear ha hb
  go_enter Try.func6, Try.ntmps6
  go_wp2
  go_ret
  exact ⟨rfl, by go_grown⟩
theorem same_any (o : Option Nat) (a b : Nat) (ha : Sft o a) (hb : Sft o b) (w : World) :
    Calls Try.prog 6 #[.float .f64 a, .float .f64 b] w fun e w' => e = .returned (.bool true) ∧ Below w.heap.size w w' := by
  cases o with
  | none => exact same_nan a b ha hb w
  | some v =>
    have e1 : a = v := ha
    have e2 : b = v := hb
    rw [e1, e2]
    by_cases h : isNan v = true
    · exact same_nan v v h h w
    · exact same_eq v h w

/-- The length that is wanted. -/
def lenO (x y z : Nat) : Option Nat :=
  (((double.mul x x).bind fun a => (double.mul y y).bind fun b => double.add a b).bind fun a => (double.mul z z).bind fun b => double.add a b).bind fun a => double.sqrt a

theorem length_any (x y z : Nat) (w : World) :
    Calls Try.prog 8 #[.agg #[.float .f64 x, .float .f64 y, .float .f64 z]] w fun e w' => ∃ r, e = .returned (.float .f64 r) ∧ Sft (lenO x y z) r ∧ Below w.heap.size w w' := by
  have HR := Lib.hid (fun s W => root_any s W)
  have hx := fun W => run_mulS x x W
  have hy := fun W => run_mulS y y W
  have hz := fun W => run_mulS z z W
  have ha := fun a b W => run_addS a b W
  go_enter Try.func8, Try.ntmps8
  go_wp2_with fail
  refine (HR.out _ _).mono ?_; rintro e w1 ⟨rfl, rfl⟩
  clear hx hy hz ha
  go_wp2
  go_ret
  refine ⟨_, rfl, sft_sqrt (sft_add (sft_add (sft_op _ _ _ _) (sft_op _ _ _ _) _) (sft_op _ _ _ _) _) _, ?_⟩
  iterate 6 refine below_opW ?_ _
  exact (Below.refl _ _).alloc (Nat.le_refl _) _

theorem plus_soft (a y z : Nat) (w : World) :
    Calls Try.prog 16 #[.float .f64 a, .float .f64 y, .float .f64 z] w fun e w' => ∃ r, e = .returned (.float .f64 r) ∧ (∀ oa, Sft oa a → Sft (oa.bind fun a => (double.mul y z).bind fun b => double.add a b) r) ∧ Below w.heap.size w w' := by
  refine (plus_any a y z w).mono ?_
  rintro e w' ⟨W, he, hb⟩
  exact ⟨_, he, fun oa ha => sft_add ha (sft_op _ _ _ _) _, hb⟩
end Go.Proofs.Ytpkifhmnibepiaa
