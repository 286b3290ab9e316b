/- PROVED: meridianlaw1.BitsTexts answers true for every argument (tied card). -/
import Derived.Test.YtpkifhmnibepiaaDoorRows
import Derived.Test.YtpkifhmnibepiaaDoorCards
import Derived.Test.YtpkifhmnibepiaaDoorTie
import Derived.Test.YtpkifhmnibepiaaDoorTexts2
import Derived.Laws.Cover2
import Derived.ProofKit
import Derived.LaidMore
import Derived.LaidHandle
import Derived.OpenShut
import Derived.ShutString
import Derived.Stop.Joined
import Derived.SevenTiedAt
import Derived.LaidSub
import Derived.Stop.LaidErr
import Derived.Test.YtpkifhmnibepiaaDoorSents
import Derived.Test.YtpkifhmnibepiaaDoorTz
namespace Go.Proofs.YtpkifhmnibepiaaDoor.bitsTexts
open Go.ChangeShapes Go.WideShapes Go.ChangeAt Go.RowKit
open Go.ChangeMaps (open_string shut_string)

theorem own : ownKnob Tryd.prog.godebug = none := by kernel_rfl
theorem laidOut : laidOutB Tryd.prog = true := by kernel_rfl
theorem et : Tryd.prog.globalNamed "errors.errorType" = some 11 := by kernel_rfl
theorem rt : (Tryd.prog.cutTypes.find? (·.1 == "internal/reflectlite.rtype")).map (·.2) = some 211 := by kernel_rfl
theorem oneRow : ((List.range Tryd.prog.types.size).filter fun t => Tryd.prog.rowNamed t [101, 114, 114, 111, 114]) = [23] := by kernel_rfl
def ten : List (String × List UInt8) := [("meridian/api.ErrText", [109, 101, 114, 105, 100, 105, 97, 110, 58, 32, 116, 101, 120, 116]), ("meridian/api.ErrBound", [109, 101, 114, 105, 100, 105, 97, 110, 58, 32, 98, 111, 117, 110, 100]), ("meridian/api.ErrTime", [109, 101, 114, 105, 100, 105, 97, 110, 58, 32, 116, 105, 109, 101]), ("meridian/api.ErrTable", [109, 101, 114, 105, 100, 105, 97, 110, 58, 32, 116, 97, 98, 108, 101]), ("meridian/api.ErrShape", [109, 101, 114, 105, 100, 105, 97, 110, 58, 32, 115, 104, 97, 112, 101]), ("meridian/api.ErrLimit", [109, 101, 114, 105, 100, 105, 97, 110, 58, 32, 108, 105, 109, 105, 116]), ("meridian/api.ErrState", [109, 101, 114, 105, 100, 105, 97, 110, 58, 32, 115, 116, 97, 116, 101]), ("meridian/api.ErrFile", [109, 101, 114, 105, 100, 105, 97, 110, 58, 32, 102, 105, 108, 101]), ("meridian/api.ErrNone", [109, 101, 114, 105, 100, 105, 97, 110, 58, 32, 110, 111, 110, 101]), ("meridian/api.ErrName", [109, 101, 114, 105, 100, 105, 97, 110, 58, 32, 110, 97, 109, 101])]
theorem tenNames : ∀ i (h : i < ten.length), Tryd.prog.globalNamed (ten[i]'h).1 = some (errG i) ∧ (Tryd.prog.globals[errG i]?).map (·.type) = some 23 := by
  intro i h
  have h : i < 10 := h
  rcases i with _ | _ | _ | _ | _ | _ | _ | _ | _ | _ | i
  all_goals first | omega | exact ⟨by kernel_rfl, by kernel_rfl⟩

theorem handleOnes : (Rows.bitsTextsRow.laid.filter fun x => x.2.handleName?.isSome) = [("errors.errorType", (Rows.laid_errors_errorType : DataW Unit))] := by kernel_rfl
theorem plainOnes : (Rows.bitsTextsRow.laid.filter fun x => x.2.handleName?.isNone) = ("math/bits.deBruijn32tab", Rows.laid_math_bits_deBruijn32tab) :: ("math/bits.deBruijn64tab", Rows.laid_math_bits_deBruijn64tab) :: ("internal/strconv.uint64pow10", Rows.laid_internal_strconv_uint64pow10) :: ten.map laidOf := by kernel_rfl
/-- What the condition gives of the errors. -/
theorem sents_of_laid {W : World} (h : laidMetH Tryd.prog Rows.bitsTextsRow.laid W) : ∃ ad, Sents W ad := by
  obtain ⟨h1, h2⟩ := laidMetH_iff.1 h
  rw [plainOnes] at h1
  rw [handleOnes] at h2
  obtain ⟨name, u, ty, e1, e2, e3, e4, e5⟩ := h2 ("errors.errorType", Rows.laid_errors_errorType) (List.mem_cons_self ..)
  have en : name = [101, 114, 114, 111, 114] := (Option.some.inj e1).symm
  subst en
  obtain rfl := Option.some.inj (rt.symm.trans e2)
  have hm : ty ∈ (List.range Tryd.prog.types.size).filter fun t => Tryd.prog.rowNamed t [101, 114, 114, 111, 114] := List.mem_filter.2 ⟨List.mem_range.2 e3, e4⟩
  rw [oneRow] at hm
  obtain rfl := List.mem_singleton.1 hm
  have hh : typeHandle Tryd.prog 23 = .pointer (some ⟨16, 23, none⟩) := by kernel_rfl
  rw [hh] at e5
  exact sents_ten h1.tail.tail.tail rfl tenNames (by simpa using World.var?_cell et e5 0)

/-- What the condition gives of the table of trailing noughts. -/
theorem db_of_laid {W : World} (h : laidMetH Tryd.prog Rows.bitsTextsRow.laid W) : DB W := by
  obtain ⟨h1, _⟩ := laidMetH_iff.1 h
  rw [plainOnes] at h1
  have h2 := h1.tail
  rw [show (Rows.laid_math_bits_deBruijn64tab : DataW Unit) = Lib.tabData .u8 dbTab by kernel_rfl] at h2
  exact Lib.tabIs_of_head db_named (by kernel_rfl) Tryd.underlying250 Tryd.underlying5 (by kernel_rfl) (by kernel_rfl) h2

theorem door_met (os : Os) (args : Array Value) : laidMetH Tryd.prog Rows.bitsTextsRow.laid ((World.doorLaid Tryd.prog 221 os).forCall (fun _ _ => 0) ⟨#[], args, []⟩).memory :=
  laidMetH_of_parts3 (fuel := 8) (laidMet_of_run' 8 (by kernel_rfl) (by kernel_rfl)) (by kernel_rfl) (by kernel_rfl)

set_option maxRecDepth 100000 in
theorem lifted (os : Os) (started : os.Started) (H : Type) (enc : TypeId × Value → H) :
    ReturnsInHanded {} Tryd.checked os 5 .any (fun w args => (Rows.bitsTextsSpec.pre enc Tryd.prog Tryd.f5 [] false w args ∧ laidMetH Tryd.prog Rows.bitsTextsRow.laid w) ∧ sizedMet enc Tryd.prog Tryd.f5 (OpenSpec.ofChange Rows.bitsTextsSpec) false w args)
      (Rows.bitsTextsSpec.post enc Tryd.prog Tryd.f5 false true false false) := by
  refine returnsInHanded_of_change_and (C := Tryd.checked) (X := fun w _ => laidMetH Tryd.prog Rows.bitsTextsRow.laid w) (fun _ _ _ hh h => h.of_heap hh) own started (by kernel_rfl) Tryd.func5
    (ChangeSpec.witness_shaped (enc := enc) (C := Tryd.checked) (os := os) (X := fun w _ => laidMetH Tryd.prog Rows.bitsTextsRow.laid w) false (World.doorLaid Tryd.prog 221 os) #[.float .f64 0, .string .empty] 8 rfl (World.shaped_of_RefB (by kernel_rfl) (by kernel_rfl)) (by kernel_rfl) (by kernel_rfl) (by kernel_rfl) (door_met os _)) ?_
  intro W base args ds gs before hval0 hW _ _ hL hsz
  have hval : ∀ (j : Nat) t v, Tryd.f5.params[j]? = some t → args[j]? = some v → Value.okWide Tryd.prog W .any base t v := hval0
  have hW' := hW
  obtain ⟨p, q, hA0, hV, rfl, hfz, hnd⟩ := hW
  have hA : DataW.TrodAll enc Tryd.prog W 0 (fun _ => true) true Tryd.f5.params.toList args.toList ds p := hA0
  rw [Tryd.params5] at hA hval
  obtain ⟨v0, vs0, d0, ds0, p0, q0, hargs, rfl, rfl, h0, r0⟩ := trodAll_cons hA
  obtain ⟨v1, vs1, d1, ds1, p1, q1, rfl, rfl, rfl, h1, r1⟩ := trodAll_cons r0
  obtain ⟨rfl, rfl, rfl⟩ := trodAll_nil r1
  obtain rfl : args = #[v0, v1] := by cases args; simp_all
  obtain ⟨rfl, rfl⟩ := trodVars_none hV
  obtain ⟨x0, rfl, rfl, rfl, hw0⟩ := open_float Tryd.underlying34 (hval 0 34 v0 rfl rfl) h0
  obtain ⟨x1, rfl, rfl, rfl, hw1⟩ := open_string Tryd.underlying9 (hval 1 9 v1 rfl rfl) h1
  obtain ⟨ad, hE⟩ := sents_of_laid hL
  have hD := db_of_laid hL
  clear hA0 hval0
  refine (bitsTexts_any ad x0 hw0 x1 hw1 hE hD).mono fun e W' ⟨he, bel⟩ => ?_
  subst he
  exact ⟨_, rfl, _, _, _, [], _, [], hW', trodAll_mk1 (shut_bool Tryd.underlying4 _), trodAll_cons_mk (shut_float Tryd.underlying34 hw0) (trodAll_cons_mk (shut_string Tryd.underlying9 hw1) (trodAll_mk0)), rfl, bel.frame _, fun h => by cases h⟩

theorem row_holds : Rows.BitsTextsSaid :=
  OpenClaim.holds_of_wide 5 Tryd.f5 rfl rfl rfl rfl rfl rfl rfl ⟨rfl, rfl, rfl, rfl, rfl⟩ rfl rfl rfl rfl rfl (by kernel_rfl) Tryd.func5 (by kernel_rfl)
    (of_decide_eq_true (by kernel_rfl)) (by unfold Func.isWrapper; first | (rw [if_pos (by decide +kernel)]; kernel_rfl) | (rw [if_neg (by decide +kernel)]; exact ⟨rfl, rfl⟩))
    (fun os started H enc _ => lifted os started H enc)

/-- ████ THE STATEMENT ████ -/
theorem proved : Rows.BitsTextsCardSaid :=
  Claim7.holds_tied_plain_at .later [] [.data, .data, .data, .handle, .sentinel, .sentinel, .sentinel, .sentinel, .sentinel, .sentinel, .sentinel, .sentinel, .sentinel, .sentinel] true (true, "7de4096efa696e8cb2e9b686ba81c08c63c717fb8e9dda66b3dbe80813bd9cc7") true
    row_holds (fun _ h => by cases h) (by kernel_rfl) (fun _ h => by cases h) bitsTexts_row_tie rfl ⟨rfl, rfl⟩ (by kernel_rfl) rfl
    (fun f fn hf hfn => by
      obtain rfl : f = 5 := Option.some.inj ((show Tryd.prog.funcNamed "meridian/meridianlaw1.BitsTexts" = some 5 by kernel_rfl).symm.trans hf) |>.symm
      obtain rfl : fn = Tryd.f5 := (Option.some.inj (Tryd.func5.symm.trans hfn)).symm
      exact ⟨by kernel_rfl, fun j t ht => by
        rw [Tryd.params5] at ht
        have hm : t ∈ [34, 9] := by simpa using Array.mem_of_getElem? ht
        have hall : ([34, 9].all fun u => !Tryd.prog.wantsStandIn u) = true := by kernel_rfl
        exact (show Tryd.prog.wantsStandIn t = false by simpa using List.all_eq_true.1 hall t hm)⟩)
    (by kernel_rfl)
#print axioms proved
end Go.Proofs.YtpkifhmnibepiaaDoor.bitsTexts
