/- PROVED: meridianlaw1.BitsNear answers true for every int and every number (no condition). -/
import Derived.Test.YtlhfmeekbijhgaaRows
import Derived.WalkKit
import Derived.ProofKit
import Derived.OpenShut
import Derived.ShutString
import Derived.Below
import Derived.Laws.Cover2
import Derived.Test.YtlhfmeekbijhgaaAng
import Derived.Test.YtlhfmeekbijhgaaNear3
import Derived.Lib.Hide
namespace Go.Proofs.Ytlhfmeekbijhgaa.bitsNear
open Go.ChangeShapes Go.WideShapes Go.ChangeAt Go.RowKit
open Go.ChangeMaps (open_string shut_string)
open Fl
set_option linter.unusedVariables false      -- a walk need not use every 'w<i>' (that an integer argument fits its kind)

theorem own : ownKnob Try.prog.godebug = none := by kernel_rfl

/-! ### STEP 1: THE WALK: the Go text returns true. 'Grown w w'': the world has at most new blocks (Derived/RowKit3.lean). Part the cases AHEAD of 'go_enter' where a test parts the walk; take each callee by a contract of your own. -/
theorem walk (a0 : Int) (a1 : Nat) (w0 : (Lit.int .i64 a0).wf = true) (w1 : (Lit.float .f64 a1).wf = true) (w : World) :
    Calls Try.prog 9 #[.int .i64 a0, .float .f64 a1] w fun e w' => e = .returned (.bool true) ∧ Below w.heap.size w w' := by
  have ha := wf_in64 w0
  have core : ∀ (z : Nat) (s : Rat), Sized z s → ∃ b : Int, angF (fmul z (sinV a0)) (fmul z (cosV a0)) = (b, true) ∧ In64 b ∧ apt a0 b ≤ 1 := by
    intro z s h
    obtain ⟨h1, d, d0, d1, h2⟩ := near_all h a0
    have bd := angV_bd (fmul z (sinV a0)) (fmul z (cosV a0))
    refine ⟨angV (fmul z (sinV a0)) (fmul z (cosV a0)), by unfold angF; rw [h1]; rfl, ⟨by omega, by omega⟩, ?_⟩
    generalize angV (fmul z (sinV a0)) (fmul z (cosV a0)) = b at *
    rw [apart_alt]
    unfold nrmT at h2
    unfold nrm
    split <;> omega
  have fin : ∀ z : Nat, isNum z = true → (∃ b : Int, angF (fmul z (sinV a0)) (fmul z (cosV a0)) = (b, true) ∧ In64 b ∧ apt a0 b ≤ 1) →
      ∃ b : Int, In64 b ∧ apt a0 b ≤ 1 ∧ Hid (∀ W, Calls Try.prog 26 #[.float .f64 (fmul z (sinV a0)), .float .f64 (fmul z (cosV a0))] W fun e w' => e = .returned (.tuple #[.int .i64 b, .bool true]) ∧ Below W.heap.size W w') := by
    intro z hz ⟨b, h1, h2, h3⟩
    refine ⟨b, h2, h3, fun W => ?_⟩
    have := angle_any (fmul z (sinV a0)) (fmul z (cosV a0)) W (fmul_lt _ _) (fmul_lt _ _)
    rw [h1] at this
    exact this
  cases g1 : (FloatKind.f64.format.order a1 2362753625475748981 == some .gt) with
  | true =>
    cases g2 : (FloatKind.f64.format.order a1 6850974717710472879 == some .lt) with
    | true =>
      have h := sized_of (z := a1) (show FloatKind.f64.format.order a1 2362753625475748981 = some .gt by simpa using g1) (show FloatKind.f64.format.order a1 6850974717710472879 = some .lt by simpa using g2)
      obtain ⟨b, hb, hap, HC⟩ := fin a1 h.num (core a1 _ h)
      have m1 := fun W => run_mul h.num (sinV_sz a0).1 W
      have m2 := fun W => run_mul h.num (cosV_sz a0).1 W
      clear h core fin
      go_enter Try.func9, Try.ntmps9
      go_wp2_with fail
      refine (sin_any _ ha _).mono ?_; rintro e w1 ⟨rfl, hb1⟩
      go_wp2_with fail
      refine (cos_any _ ha _).mono ?_; rintro e w2 ⟨rfl, hb2⟩
      go_wp2_with fail
      refine (HC.out _).mono ?_; rintro e w3 ⟨rfl, hb3⟩
      go_wp2_with fail
      refine (apart_any _ _ _ ha hb).mono ?_; rintro e w' ⟨rfl, rfl⟩
      go_wp2
      go_ret
      exact ⟨rfl, below_step hb1 (below_step hb2 hb3)⟩
    | false =>
      have h := sized_one
      obtain ⟨b, hb, hap, HC⟩ := fin one h.num (core one _ h)
      have m1 := fun W => run_mul h.num (sinV_sz a0).1 W
      have m2 := fun W => run_mul h.num (cosV_sz a0).1 W
      unfold one at m1 m2 HC
      clear h core fin
      go_enter Try.func9, Try.ntmps9
      go_wp2_with fail
      refine (sin_any _ ha _).mono ?_; rintro e w1 ⟨rfl, hb1⟩
      go_wp2_with fail
      refine (cos_any _ ha _).mono ?_; rintro e w2 ⟨rfl, hb2⟩
      go_wp2_with fail
      refine (HC.out _).mono ?_; rintro e w3 ⟨rfl, hb3⟩
      go_wp2_with fail
      refine (apart_any _ _ _ ha hb).mono ?_; rintro e w' ⟨rfl, rfl⟩
      go_wp2
      go_ret
      exact ⟨rfl, below_step hb1 (below_step hb2 hb3)⟩
  | false =>
    have h := sized_one
    obtain ⟨b, hb, hap, HC⟩ := fin one h.num (core one _ h)
    have m1 := fun W => run_mul h.num (sinV_sz a0).1 W
    have m2 := fun W => run_mul h.num (cosV_sz a0).1 W
    unfold one at m1 m2 HC
    clear h core fin
    go_enter Try.func9, Try.ntmps9
    go_wp2_with fail
    refine (sin_any _ ha _).mono ?_; rintro e w1 ⟨rfl, hb1⟩
    go_wp2_with fail
    refine (cos_any _ ha _).mono ?_; rintro e w2 ⟨rfl, hb2⟩
    go_wp2_with fail
    refine (HC.out _).mono ?_; rintro e w3 ⟨rfl, hb3⟩
    go_wp2_with fail
    refine (apart_any _ _ _ ha hb).mono ?_; rintro e w' ⟨rfl, rfl⟩
    go_wp2
    go_ret
    exact ⟨rfl, below_step hb1 (below_step hb2 hb3)⟩

/-! ### THE ROW's STEP: WRITTEN OUT: LEAVE IT -/
set_option maxRecDepth 100000 in
theorem lifted (os : Os) (started : os.Started) (H : Type) (enc : TypeId × Value → H) :
    ReturnsInHanded {} Try.checked os 9 .any (Rows.bitsNearSpec.pre6 enc Try.prog Try.f9 Rows.bitsNearRow.domain false) (Rows.bitsNearSpec.post enc Try.prog Try.f9 false true false false) := by
  refine returnsInHanded_of_change (C := Try.checked) own started (by kernel_rfl) Try.func9
    (ChangeSpec.witness6 (enc := enc) (C := Try.checked) false ⟨#[], #[.int .i64 0, .float .f64 0], []⟩ 8 (by kernel_rfl) (by kernel_rfl) (by kernel_rfl) (by kernel_rfl)) ?_
  intro W base args ds gs before hval0 hW hcnd _
  have hval : ∀ (j : Nat) t v, Try.f9.params[j]? = some t → args[j]? = some v → Value.okWide Try.prog W .any base t v := hval0
  have hW' := hW
  obtain ⟨p, q, hA0, hV, rfl, hfz, hnd⟩ := hW
  have hA : DataW.TrodAll enc Try.prog W 0 (fun _ => true) true Try.f9.params.toList args.toList ds p := hA0
  rw [Try.params9] at hA hval
  obtain ⟨v0, vs0, d0, ds0, p0, q0, hargs, rfl, rfl, h0, r0⟩ := trodAll_cons hA
  obtain ⟨v1, vs1, d1, ds1, p1, q1, rfl, rfl, rfl, h1, r1⟩ := trodAll_cons r0
  obtain ⟨rfl, rfl, rfl⟩ := trodAll_nil r1
  obtain rfl : args = #[v0, v1] := by cases args; simp_all
  obtain ⟨rfl, rfl⟩ := trodVars_none hV
  obtain ⟨a0, rfl, rfl, rfl, w0⟩ := open_int Try.underlying3 (hval 0 3 v0 rfl rfl) h0
  obtain ⟨a1, rfl, rfl, rfl, w1⟩ := open_float Try.underlying29 (hval 1 29 v1 rfl rfl) h1
  clear hA0 hval0
  simp only [List.append_nil] at hW'
  refine (walk a0 a1 w0 w1 W).mono fun e W' ⟨he, bel⟩ => ?_
  subst he
  exact ⟨_, rfl, _, _, _, [], [], [], hW', (trodAll_cons_mk (shut_bool Try.underlying4 _) trodAll_mk0), (trodAll_cons_mk (shut_int Try.underlying3 w0) (trodAll_cons_mk (shut_float Try.underlying29 w1) trodAll_mk0)), rfl, bel.frame _, fun h => by cases h⟩

theorem over : Rows.bitsNearRow.holds Try.pinned (OpenSpec.ofChange Rows.bitsNearSpec) :=
  OpenClaim.holds_of_wide 9 Try.f9 rfl rfl rfl rfl rfl rfl rfl ⟨rfl, rfl, rfl, rfl, rfl⟩ rfl rfl rfl rfl rfl (by kernel_rfl) Try.func9 (by kernel_rfl)
    (of_decide_eq_true (by kernel_rfl)) (by unfold Func.isWrapper; first | (rw [if_pos (by decide +kernel)]; kernel_rfl) | (rw [if_neg (by decide +kernel)]; exact ⟨rfl, rfl⟩))
    (fun os started H enc _ => lifted os started H enc)

/-- ████ THE STATEMENT ████ -/
theorem proved : Rows.BitsNearSaid :=
  over
#print axioms proved
end Go.Proofs.Ytlhfmeekbijhgaa.bitsNear
