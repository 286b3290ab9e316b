/- PROVED: meridianlaw1.BitsCircle answers true for every int (no condition). -/
import Derived.Test.YtlhfmeekbijhgaaRows
import Derived.WalkKit
import Derived.ProofKit
import Derived.OpenShut
import Derived.ShutString
import Derived.Below
import Derived.Test.YtlhfmeekbijhgaaCirc
import Derived.Test.YtlhfmeekbijhgaaSin
import Derived.Lib.Hide
namespace Go.Proofs.Ytlhfmeekbijhgaa.bitsCircle
open Go.ChangeShapes Go.WideShapes Go.ChangeAt Go.RowKit
open Go.ChangeMaps (open_string shut_string)
open Fl
set_option linter.unusedVariables false      -- a walk need not use every 'w<i>' (that an integer argument fits its kind)

theorem own : ownKnob Try.prog.godebug = none := by kernel_rfl

/-! ### STEP 1: THE WALK: the Go text returns true. 'Grown w w'': the world has at most new blocks (Derived/RowKit3.lean). Part the cases AHEAD of 'go_enter' where a test parts the walk; take each callee by a contract of your own. -/
theorem walk (a0 : Int) (w0 : (Lit.int .i64 a0).wf = true) (w : World) :
    Calls Try.prog 5 #[.int .i64 a0] w fun e w' => e = .returned (.bool true) ∧ Below w.heap.size w w' := by
  have ha := wf_in64 w0
  have b1 : 0 ≤ nrmT a0 ∧ nrmT a0 < 1296000000000 := by unfold nrmT; omega
  obtain ⟨n1, n2, n3, _, _⟩ := circ_all a0
  have m1 := fun W => run_mul (sinV_sz a0).1 (sinV_sz a0).1 W
  have m2 := fun W => run_mul (cosV_sz a0).1 (cosV_sz a0).1 W
  have m3 := fun W => run_add n1 n2 W
  have m4 : ∀ W, (binOp .sub 29 (.float .f64 (fadd (fmul (sinV a0) (sinV a0)) (fmul (cosV a0) (cosV a0)))) (.float .f64 4607182418800017408)).run Try.prog W = .ok (.float .f64 (circV a0)) W :=
    fun W => run_float_arith W .sub _ .f64 _ _ _ (sub_num n3 one_sz.1)
  have o1 : FloatKind.f64.format.order (circV a0) 4382569440205035030 = some .lt := circ_lt a0
  have o2 : FloatKind.f64.format.order (circV a0) 13605941477059810838 = some .gt := circ_gt a0
  have o3 : FloatKind.f64.format.order (Op.negFloat .f64 (sinV a0)) (Op.negFloat .f64 (sinV a0)) = some .eq := order_self (neg_sz (sinV_sz a0)).1
  have CQ := fun W => cos_any (nrmT a0 + 324000000000) ⟨by omega, by omega⟩ W
  rw [quarter] at CQ
  have SH := fun W => sin_any (nrmT a0 + 648000000000) ⟨by omega, by omega⟩ W
  rw [half] at SH
  have HQ := Lib.hid CQ
  have HH := Lib.hid SH
  clear CQ SH n1 n2 n3
  go_enter Try.func5, Try.ntmps5
  go_wp2_with fail
  refine (sin_any _ ha _).mono ?_; rintro e w1 ⟨rfl, hb1⟩
  go_wp2_with fail
  refine (cos_any _ ha _).mono ?_; rintro e w2 ⟨rfl, hb2⟩
  go_wp2_with fail
  refine (normT_any _ _ ha).mono ?_; rintro e w' ⟨rfl, rfl⟩
  go_wp2_with fail
  refine (HQ.out _).mono ?_; rintro e w3 ⟨rfl, hb3⟩
  go_wp2_with fail
  refine (HH.out _).mono ?_; rintro e w4 ⟨rfl, hb4⟩
  go_wp2
  go_ret
  exact ⟨rfl, below_step hb1 (below_step hb2 (below_step hb3 hb4))⟩

/-! ### THE ROW's STEP: WRITTEN OUT: LEAVE IT -/
set_option maxRecDepth 100000 in
theorem lifted (os : Os) (started : os.Started) (H : Type) (enc : TypeId × Value → H) :
    ReturnsInHanded {} Try.checked os 5 .any (Rows.bitsCircleSpec.pre6 enc Try.prog Try.f5 Rows.bitsCircleRow.domain false) (Rows.bitsCircleSpec.post enc Try.prog Try.f5 false true false false) := by
  refine returnsInHanded_of_change (C := Try.checked) own started (by kernel_rfl) Try.func5
    (ChangeSpec.witness6 (enc := enc) (C := Try.checked) false ⟨#[], #[.int .i64 0], []⟩ 8 (by kernel_rfl) (by kernel_rfl) (by kernel_rfl) (by kernel_rfl)) ?_
  intro W base args ds gs before hval0 hW hcnd _
  have hval : ∀ (j : Nat) t v, Try.f5.params[j]? = some t → args[j]? = some v → Value.okWide Try.prog W .any base t v := hval0
  have hW' := hW
  obtain ⟨p, q, hA0, hV, rfl, hfz, hnd⟩ := hW
  have hA : DataW.TrodAll enc Try.prog W 0 (fun _ => true) true Try.f5.params.toList args.toList ds p := hA0
  rw [Try.params5] at hA hval
  obtain ⟨v0, vs0, d0, ds0, p0, q0, hargs, rfl, rfl, h0, r0⟩ := trodAll_cons hA
  obtain ⟨rfl, rfl, rfl⟩ := trodAll_nil r0
  obtain rfl : args = #[v0] := by cases args; simp_all
  obtain ⟨rfl, rfl⟩ := trodVars_none hV
  obtain ⟨a0, rfl, rfl, rfl, w0⟩ := open_int Try.underlying3 (hval 0 3 v0 rfl rfl) h0
  clear hA0 hval0
  simp only [List.append_nil] at hW'
  refine (walk a0 w0 W).mono fun e W' ⟨he, bel⟩ => ?_
  subst he
  exact ⟨_, rfl, _, _, _, [], [], [], hW', (trodAll_cons_mk (shut_bool Try.underlying4 _) trodAll_mk0), (trodAll_cons_mk (shut_int Try.underlying3 w0) trodAll_mk0), rfl, bel.frame _, fun h => by cases h⟩

theorem over : Rows.bitsCircleRow.holds Try.pinned (OpenSpec.ofChange Rows.bitsCircleSpec) :=
  OpenClaim.holds_of_wide 5 Try.f5 rfl rfl rfl rfl rfl rfl rfl ⟨rfl, rfl, rfl, rfl, rfl⟩ rfl rfl rfl rfl rfl (by kernel_rfl) Try.func5 (by kernel_rfl)
    (of_decide_eq_true (by kernel_rfl)) (by unfold Func.isWrapper; first | (rw [if_pos (by decide +kernel)]; kernel_rfl) | (rw [if_neg (by decide +kernel)]; exact ⟨rfl, rfl⟩))
    (fun os started H enc _ => lifted os started H enc)

/-- ████ THE STATEMENT ████ -/
theorem proved : Rows.BitsCircleSaid :=
  over
#print axioms proved
end Go.Proofs.Ytlhfmeekbijhgaa.bitsCircle
