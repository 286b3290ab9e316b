/- PROVED: meridianlaw1.ArcBack answers true for every argument (tied card). -/
import Derived.Test.YtpkifhmnibepiaaDoorRows
import Derived.Test.YtpkifhmnibepiaaDoorCards
import Derived.Test.YtpkifhmnibepiaaDoorTie
import Derived.Test.YtpkifhmnibepiaaDoorBack
import Derived.ProofKit
import Derived.LaidMore
import Derived.LaidHandle
import Derived.OpenShut
import Derived.ShutString
import Derived.Stop.Joined
import Derived.SevenTiedAt
import Derived.LaidSub
import Derived.Stop.LaidErr
import Derived.Test.YtpkifhmnibepiaaDoorSents
import Derived.Test.YtpkifhmnibepiaaDoorFmtU
import Derived.Lib.LaidTab
namespace Go.Proofs.YtpkifhmnibepiaaDoor.arcBack
open Go.ChangeShapes Go.WideShapes Go.ChangeAt Go.RowKit
open Go.ChangeMaps (open_string shut_string)

theorem own : ownKnob Tryd.prog.godebug = none := by kernel_rfl
theorem laidOut : laidOutB Tryd.prog = true := by kernel_rfl
def oneS : List (String × List UInt8) := [("meridian/api.ErrText", [109, 101, 114, 105, 100, 105, 97, 110, 58, 32, 116, 101, 120, 116])]
theorem plainOnes : (Rows.arcBackRow.laid.filter fun x => x.2.handleName?.isNone) = ("math/bits.deBruijn32tab", Rows.laid_math_bits_deBruijn32tab) :: ("math/bits.deBruijn64tab", Rows.laid_math_bits_deBruijn64tab) :: ("internal/strconv.uint64pow10", Rows.laid_internal_strconv_uint64pow10) :: oneS.map laidOf := by kernel_rfl
/-- What the condition gives of the one error. -/
theorem one_of_laid {W : World} (h : laidMetH Tryd.prog Rows.arcBackRow.laid W) : ∃ ad, HasE ad W := by
  obtain ⟨h1, _⟩ := laidMetH_iff.1 h
  rw [plainOnes] at h1
  have hn : Tryd.prog.globalNamed "meridian/api.ErrText" = some 0 := by kernel_rfl
  have ht : (Tryd.prog.globals[0]?).map (·.type) = some 23 := by kernel_rfl
  obtain ⟨ps, hv, hnd, hok⟩ := h1.tail.tail.tail
  obtain ⟨al, _, _, hat⟩ := sents_list oneS ps hv (fun x hx => by
    obtain rfl := List.mem_singleton.1 hx
    exact ⟨_, hn, ht⟩) hok
  obtain ⟨a, _, h2⟩ := hat 0 (by decide)
  exact ⟨a, by simpa [HasE] using World.var?_cell hn h2 0⟩

/-- What the condition gives of the table. -/
theorem pow_of_laid {W : World} (h : laidMetH Tryd.prog Rows.arcBackRow.laid W) : Pow10 W := by
  obtain ⟨h1, _⟩ := laidMetH_iff.1 h
  rw [plainOnes] at h1
  have h2 := h1.tail.tail
  rw [show (Rows.laid_internal_strconv_uint64pow10 : DataW Unit) = Lib.tabData .u64 Lib.pow10Tab by kernel_rfl] at h2
  exact Lib.tabIs_of_head pow10_named (by kernel_rfl) Tryd.underlying232 Tryd.underlying120 (by kernel_rfl) (by kernel_rfl) h2

theorem door_met (os : Os) (args : Array Value) : laidMetH Tryd.prog Rows.arcBackRow.laid ((World.doorLaid Tryd.prog 221 os).forCall (fun _ _ => 0) ⟨#[], args, []⟩).memory :=
  laidMetH_of_parts3 (fuel := 8) (laidMet_of_run' 8 (by kernel_rfl) (by kernel_rfl)) (by kernel_rfl) (by kernel_rfl)

set_option maxRecDepth 100000 in
theorem lifted (os : Os) (started : os.Started) (H : Type) (enc : TypeId × Value → H) :
    ReturnsInHanded {} Tryd.checked os 6 .any (fun w args => (Rows.arcBackSpec.pre enc Tryd.prog Tryd.f6 [] false w args ∧ laidMetH Tryd.prog Rows.arcBackRow.laid w) ∧ sizedMet enc Tryd.prog Tryd.f6 (OpenSpec.ofChange Rows.arcBackSpec) false w args)
      (Rows.arcBackSpec.post enc Tryd.prog Tryd.f6 false true false false) := by
  refine returnsInHanded_of_change_and (C := Tryd.checked) (X := fun w _ => laidMetH Tryd.prog Rows.arcBackRow.laid w) (fun _ _ _ hh h => h.of_heap hh) own started (by kernel_rfl) Tryd.func6
    (ChangeSpec.witness_shaped (enc := enc) (C := Tryd.checked) (os := os) (X := fun w _ => laidMetH Tryd.prog Rows.arcBackRow.laid w) false (World.doorLaid Tryd.prog 221 os) #[.int .i64 0] 8 rfl (World.shaped_of_RefB (by kernel_rfl) (by kernel_rfl)) (by kernel_rfl) (by kernel_rfl) (by kernel_rfl) (door_met os _)) ?_
  intro W base args ds gs before hval0 hW _ _ hL hsz
  have hval : ∀ (j : Nat) t v, Tryd.f6.params[j]? = some t → args[j]? = some v → Value.okWide Tryd.prog W .any base t v := hval0
  have hW' := hW
  obtain ⟨p, q, hA0, hV, rfl, hfz, hnd⟩ := hW
  have hA : DataW.TrodAll enc Tryd.prog W 0 (fun _ => true) true Tryd.f6.params.toList args.toList ds p := hA0
  rw [Tryd.params6] at hA hval
  obtain ⟨v0, vs0, d0, ds0, p0, q0, hargs, rfl, rfl, h0, r0⟩ := trodAll_cons hA
  obtain ⟨rfl, rfl, rfl⟩ := trodAll_nil r0
  obtain rfl : args = #[v0] := by cases args; simp_all
  obtain ⟨rfl, rfl⟩ := trodVars_none hV
  obtain ⟨x0, rfl, rfl, rfl, hw0⟩ := open_int Tryd.underlying3 (hval 0 3 v0 rfl rfl) h0
  obtain ⟨ad, hE⟩ := one_of_laid hL
  have hP := pow_of_laid hL
  clear hA0 hval0
  refine (arcBack_any ad x0 (wf_in64 hw0) hE hP).mono fun e W' ⟨he, bel⟩ => ?_
  subst he
  exact ⟨_, rfl, _, _, _, [], _, [], hW', trodAll_mk1 (shut_bool Tryd.underlying4 _), trodAll_cons_mk (shut_int Tryd.underlying3 hw0) (trodAll_mk0), rfl, bel.frame _, fun h => by cases h⟩

theorem row_holds : Rows.ArcBackSaid :=
  OpenClaim.holds_of_wide 6 Tryd.f6 rfl rfl rfl rfl rfl rfl rfl ⟨rfl, rfl, rfl, rfl, rfl⟩ rfl rfl rfl rfl rfl (by kernel_rfl) Tryd.func6 (by kernel_rfl)
    (of_decide_eq_true (by kernel_rfl)) (by unfold Func.isWrapper; first | (rw [if_pos (by decide +kernel)]; kernel_rfl) | (rw [if_neg (by decide +kernel)]; exact ⟨rfl, rfl⟩))
    (fun os started H enc _ => lifted os started H enc)

/-- ████ THE STATEMENT ████ -/
theorem proved : Rows.ArcBackCardSaid :=
  Claim7.holds_tied_plain_at .later [] [.data, .data, .data, .sentinel] true (true, "7de4096efa696e8cb2e9b686ba81c08c63c717fb8e9dda66b3dbe80813bd9cc7") true
    row_holds (fun _ h => by cases h) (by kernel_rfl) (fun _ h => by cases h) arcBack_row_tie rfl ⟨rfl, rfl⟩ (by kernel_rfl) rfl
    (fun f fn hf hfn => by
      obtain rfl : f = 6 := Option.some.inj ((show Tryd.prog.funcNamed "meridian/meridianlaw1.ArcBack" = some 6 by kernel_rfl).symm.trans hf) |>.symm
      obtain rfl : fn = Tryd.f6 := (Option.some.inj (Tryd.func6.symm.trans hfn)).symm
      exact ⟨by kernel_rfl, fun j t ht => by
        rw [Tryd.params6] at ht
        have hm : t ∈ [3] := by simpa using Array.mem_of_getElem? ht
        have hall : ([3].all fun u => !Tryd.prog.wantsStandIn u) = true := by kernel_rfl
        exact (show Tryd.prog.wantsStandIn t = false by simpa using List.all_eq_true.1 hall t hm)⟩)
    (by kernel_rfl)
#print axioms proved
end Go.Proofs.YtpkifhmnibepiaaDoor.arcBack
