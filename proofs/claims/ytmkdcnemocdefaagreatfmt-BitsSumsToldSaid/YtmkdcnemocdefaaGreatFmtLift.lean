/- PROVED: meridianlaw1.BitsSums answers true for every argument (told and tied card): all but the last step. -/
import Derived.Test.YtmkdcnemocdefaaGreatFmtRows
import Derived.Test.YtmkdcnemocdefaaGreatFmtCards
import Derived.Test.YtmkdcnemocdefaaGreatFmtTie
import Derived.Test.YtmkdcnemocdefaaGreatFmtLaw
import Derived.Test.YtmkdcnemocdefaaGreatFmtDoor
import Derived.Lay
import Derived.ProofKit
import Derived.LaidMore
import Derived.LaidHandle
import Derived.OpenShut
import Derived.ShutString
import Derived.Stop.Joined
import Derived.SevenTiedAt
import Derived.LaidSub
import Derived.Stop.LaidErr
import Derived.Stop.JoinedTold
import Derived.Deep.DeepWitnessRef
import Derived.SevenToldTied
namespace Go.Proofs.YtmkdcnemocdefaaGreatFmt.bitsSums
open Go.ChangeShapes Go.WideShapes Go.ChangeAt Go.RowKit
open Go.ChangeMaps (open_string shut_string)
open Go.Extern.Stop Go.Stop Go.Extern

theorem own : ownKnob Tryz.prog.godebug = none := by kernel_rfl
theorem laidOut : laidOutB Tryz.prog = true := by kernel_rfl
set_option maxRecDepth 100000 in
theorem lifted (os : Os) (started : os.Started) (H : Type) (enc : TypeId × Value → H) :
    ReturnsInTold none {} Tryz.checked os 3 .any Input.okWide ((OpenSpec.ofChange Rows.bitsSumsSpec).preRow enc Tryz.prog Tryz.f3 [] false Rows.bitsSumsRow.laid)
      (fun F => ((OpenSpec.ofChange Rows.bitsSumsSpec).at F).post enc Tryz.prog Tryz.f3 false true false false) (aloneAtReturn Tryz.prog) nothingAlways := by
  refine returnsInTold_of_row (C := Tryz.checked) (s := OpenSpec.ofChange Rows.bitsSumsSpec) (by kernel_rfl) own started (by kernel_rfl) Tryz.func3 (witnessed os H enc) ?_
  intro F W base args ds gs before _ hF hval0 hW _ _ _ hL _
  have hval : ∀ (j : Nat) t v, Tryz.f3.params[j]? = some t → args[j]? = some v → Value.okWide Tryz.prog W .any base t v := hval0
  have hW' := hW
  obtain ⟨p, q, hA0, hV, rfl, hfz, hnd⟩ := hW
  have hA : DataW.TrodAll enc Tryz.prog W 0 (fun _ => true) true Tryz.f3.params.toList args.toList ds p := hA0
  rw [Tryz.params3] at hA hval
  obtain ⟨v0, vs0, d0, ds0, p0, q0, hargs, rfl, rfl, h0, r0⟩ := trodAll_cons hA
  obtain ⟨rfl, rfl, rfl⟩ := trodAll_nil r0
  obtain rfl : args = #[v0] := by cases args; simp_all
  obtain ⟨rfl, rfl⟩ := trodVars_none hV
  have k0 := h0
  have lt0 : ∀ x ∈ p0, x.block < W.heap.size := by obtain ⟨m, hm⟩ := k0; exact DataW.trod_lt m _ _ _ hm
  obtain ⟨a0, n0, cap0, f0, rfl, hT0, hB0⟩ : ∃ a n cap f, v0 = .slice a n cap ∧ FRow W a n f ∧ ∀ j, f j < 18446744073709551616 := by
    obtain ⟨a, n, cap, rfl⟩ := okWide_slice Tryz.underlying22 (hval 0 22 v0 rfl rfl)
    obtain ⟨fuel, hf⟩ := h0
    exact open_frowF (by simpa [Value.cells] using hf)
  clear hA0 hval0
  refine (bitsSums_any a0 n0 cap0 f0 W hT0 hB0).mono fun e W' ⟨he, bel⟩ => ?_
  subst he
  exact ⟨_, rfl, _, _, _, [], _, [], hW', trodAll_mk1 (shut_bool Tryz.underlying4 _), trodAll_cons_mk (Below.trod laidOut (by kernel_rfl) (of_decide_eq_true (by kernel_rfl)) k0 bel lt0) (trodAll_mk0), rfl, bel.frame _, fun h => by cases h⟩

end Go.Proofs.YtmkdcnemocdefaaGreatFmt.bitsSums
