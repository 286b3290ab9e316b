/- PROVED: meridianlaw4.LightPowers answers true for every argument (tied card). -/
import Derived.Test.YtbafddlkeocpeaaGreatDoorRows
import Derived.Test.YtbafddlkeocpeaaGreatDoorCards
import Derived.Test.YtbafddlkeocpeaaGreatDoorTie
import Derived.Test.YtbafddlkeocpeaaGreatDoorPwZ
import Derived.Test.YtbafddlkeocpeaaGreatDoorArg
import Derived.ProofKit
import Derived.LaidMore
import Derived.LaidHandle
import Derived.OpenShut
import Derived.ShutString
import Derived.Stop.Joined
import Derived.SevenTiedAt
import Derived.LaidSub
import Derived.Stop.LaidErr
import Derived.Test.YtbafddlkeocpeaaGreatDoorSents
namespace Go.Proofs.YtbafddlkeocpeaaGreatDoor.lightPowers
open Go.ChangeShapes Go.WideShapes Go.ChangeAt Go.RowKit
open Go.ChangeMaps (open_string shut_string)

theorem own : ownKnob Tryz.prog.godebug = none := by kernel_rfl
theorem laidOut : laidOutB Tryz.prog = true := by kernel_rfl
theorem et : Tryz.prog.globalNamed "errors.errorType" = some 11 := by kernel_rfl
theorem rt : (Tryz.prog.cutTypes.find? (·.1 == "internal/reflectlite.rtype")).map (·.2) = some 103 := by kernel_rfl
theorem oneRow : ((List.range Tryz.prog.types.size).filter fun t => Tryz.prog.rowNamed t [101, 114, 114, 111, 114]) = [25] := by kernel_rfl
def ten : List (String × List UInt8) := [("meridian/api.ErrText", [109, 101, 114, 105, 100, 105, 97, 110, 58, 32, 116, 101, 120, 116]), ("meridian/api.ErrBound", [109, 101, 114, 105, 100, 105, 97, 110, 58, 32, 98, 111, 117, 110, 100]), ("meridian/api.ErrTime", [109, 101, 114, 105, 100, 105, 97, 110, 58, 32, 116, 105, 109, 101]), ("meridian/api.ErrTable", [109, 101, 114, 105, 100, 105, 97, 110, 58, 32, 116, 97, 98, 108, 101]), ("meridian/api.ErrShape", [109, 101, 114, 105, 100, 105, 97, 110, 58, 32, 115, 104, 97, 112, 101]), ("meridian/api.ErrLimit", [109, 101, 114, 105, 100, 105, 97, 110, 58, 32, 108, 105, 109, 105, 116]), ("meridian/api.ErrState", [109, 101, 114, 105, 100, 105, 97, 110, 58, 32, 115, 116, 97, 116, 101]), ("meridian/api.ErrFile", [109, 101, 114, 105, 100, 105, 97, 110, 58, 32, 102, 105, 108, 101]), ("meridian/api.ErrNone", [109, 101, 114, 105, 100, 105, 97, 110, 58, 32, 110, 111, 110, 101]), ("meridian/api.ErrName", [109, 101, 114, 105, 100, 105, 97, 110, 58, 32, 110, 97, 109, 101])]
theorem tenNames : ∀ i (h : i < ten.length), Tryz.prog.globalNamed (ten[i]'h).1 = some (errG i) ∧ (Tryz.prog.globals[errG i]?).map (·.type) = some 25 := by
  intro i h
  have h : i < 10 := h
  rcases i with _ | _ | _ | _ | _ | _ | _ | _ | _ | _ | i
  all_goals first | omega | exact ⟨by kernel_rfl, by kernel_rfl⟩

theorem handleOnes : (Rows.lightPowersRow.laid.filter fun x => x.2.handleName?.isSome) = [("errors.errorType", (Rows.laid_errors_errorType : DataW Unit))] := by kernel_rfl
theorem tenOnes : ((Rows.lightPowersRow.laid.filter fun x => x.2.handleName?.isNone).filter fun x => (ten.map (·.1)).contains x.1) = ten.map laidOf := by kernel_rfl
/-- What the condition gives of the errors. -/
theorem sents_of_laid {W : World} (h : laidMetH Tryz.prog Rows.lightPowersRow.laid W) : ∃ ad, Sents W ad := by
  obtain ⟨h1, h2⟩ := laidMetH_iff.1 h
  have h3 := h1.filter (fun x => (ten.map (·.1)).contains x.1)
  rw [tenOnes] at h3
  rw [handleOnes] at h2
  obtain ⟨name, u, ty, e1, e2, e3, e4, e5⟩ := h2 ("errors.errorType", Rows.laid_errors_errorType) (List.mem_cons_self ..)
  have en : name = [101, 114, 114, 111, 114] := (Option.some.inj e1).symm
  subst en
  obtain rfl := Option.some.inj (rt.symm.trans e2)
  have hm : ty ∈ (List.range Tryz.prog.types.size).filter fun t => Tryz.prog.rowNamed t [101, 114, 114, 111, 114] := List.mem_filter.2 ⟨List.mem_range.2 e3, e4⟩
  rw [oneRow] at hm
  obtain rfl := List.mem_singleton.1 hm
  have hh : typeHandle Tryz.prog 25 = .pointer (some ⟨27, 25, none⟩) := by kernel_rfl
  rw [hh] at e5
  exact sents_ten h3 rfl tenNames (by simpa using World.var?_cell et e5 0)

theorem door_met (os : Os) (args : Array Value) : laidMetH Tryz.prog Rows.lightPowersRow.laid ((World.doorLaid Tryz.prog 236 os).forCall (fun _ _ => 0) ⟨#[], args, []⟩).memory :=
  laidMetH_of_parts3 (fuel := 8) (laidMet_of_run' 8 (by kernel_rfl) (by kernel_rfl)) (by kernel_rfl) (by kernel_rfl)

set_option maxRecDepth 100000 in
theorem lifted (os : Os) (started : os.Started) (H : Type) (enc : TypeId × Value → H) :
    ReturnsInHanded {} Tryz.checked os 3 .any (fun w args => (Rows.lightPowersSpec.pre enc Tryz.prog Tryz.f3 [] false w args ∧ laidMetH Tryz.prog Rows.lightPowersRow.laid w) ∧ sizedMet enc Tryz.prog Tryz.f3 (OpenSpec.ofChange Rows.lightPowersSpec) false w args)
      (Rows.lightPowersSpec.post enc Tryz.prog Tryz.f3 false true false false) := by
  refine returnsInHanded_of_change_and (C := Tryz.checked) (X := fun w _ => laidMetH Tryz.prog Rows.lightPowersRow.laid w) (fun _ _ _ hh h => h.of_heap hh) own started (by kernel_rfl) Tryz.func3
    (ChangeSpec.witness_shaped (enc := enc) (C := Tryz.checked) (os := os) (X := fun w _ => laidMetH Tryz.prog Rows.lightPowersRow.laid w) false (World.doorLaid Tryz.prog 236 os) #[.slice none 0 0, .slice none 0 0, .int .i64 0, .int .i64 0, .int .i64 0] 8 rfl (World.shaped_of_RefB (by kernel_rfl) (by kernel_rfl)) (by kernel_rfl) (by kernel_rfl) (by kernel_rfl) (door_met os _)) ?_
  intro W base args ds gs before hval0 hW _ _ hL hsz
  have hval : ∀ (j : Nat) t v, Tryz.f3.params[j]? = some t → args[j]? = some v → Value.okWide Tryz.prog W .any base t v := hval0
  have hW' := hW
  obtain ⟨p, q, hA0, hV, rfl, hfz, hnd⟩ := hW
  have hA : DataW.TrodAll enc Tryz.prog W 0 (fun _ => true) true Tryz.f3.params.toList args.toList ds p := hA0
  rw [Tryz.params3] at hA hval
  obtain ⟨v0, vs0, d0, ds0, p0, q0, hargs, rfl, rfl, h0, r0⟩ := trodAll_cons hA
  obtain ⟨v1, vs1, d1, ds1, p1, q1, rfl, rfl, rfl, h1, r1⟩ := trodAll_cons r0
  obtain ⟨v2, vs2, d2, ds2, p2, q2, rfl, rfl, rfl, h2, r2⟩ := trodAll_cons r1
  obtain ⟨v3, vs3, d3, ds3, p3, q3, rfl, rfl, rfl, h3, r3⟩ := trodAll_cons r2
  obtain ⟨v4, vs4, d4, ds4, p4, q4, rfl, rfl, rfl, h4, r4⟩ := trodAll_cons r3
  obtain ⟨rfl, rfl, rfl⟩ := trodAll_nil r4
  obtain rfl : args = #[v0, v1, v2, v3, v4] := by cases args; simp_all
  obtain ⟨rfl, rfl⟩ := trodVars_none hV
  have k0 := h0
  have lt0 : ∀ x ∈ p0, x.block < W.heap.size := by obtain ⟨m, hm⟩ := k0; exact DataW.trod_lt m _ _ _ hm
  obtain ⟨a0, n0, cap0, f0, rfl, hl0, hm0, hT0, hi0⟩ : ∃ a n cap f, v0 = .slice a n cap ∧ n ≤ cap ∧ cap ≤ 9223372036854775807 ∧ IRow W a n f ∧ ∀ j, j < n → In64 (f j) := by
    obtain ⟨a, n, cap, rfl⟩ := okWide_slice Tryz.underlying22 (hval 0 22 v0 rfl rfl)
    obtain ⟨fuel, hf⟩ := h0
    exact open_irow2 (by simpa [Value.cells] using hf)
  have k1 := h1
  have lt1 : ∀ x ∈ p1, x.block < W.heap.size := by obtain ⟨m, hm⟩ := k1; exact DataW.trod_lt m _ _ _ hm
  obtain ⟨a1, n1, cap1, f1, rfl, hl1, hm1, hT1⟩ : ∃ a n cap f, v1 = .slice a n cap ∧ n ≤ cap ∧ cap ≤ 9223372036854775807 ∧ FRow W a n f := by
    obtain ⟨a, n, cap, rfl⟩ := okWide_slice Tryz.underlying23 (hval 1 23 v1 rfl rfl)
    obtain ⟨fuel, hf⟩ := h1
    exact open_frow2 (by simpa [Value.cells] using hf)
  obtain ⟨x2, rfl, rfl, rfl, hw2⟩ := open_int Tryz.underlying3 (hval 2 3 v2 rfl rfl) h2
  obtain ⟨x3, rfl, rfl, rfl, hw3⟩ := open_int Tryz.underlying3 (hval 3 3 v3 rfl rfl) h3
  obtain ⟨x4, rfl, rfl, rfl, hw4⟩ := open_int Tryz.underlying3 (hval 4 3 v4 rfl rfl) h4
  obtain ⟨ad, hE⟩ := sents_of_laid hL
  clear hA0 hval0
  refine (lightPowers_any ad f0 a0 n0 cap0 hT0 f1 a1 n1 cap1 hT1 x2 (wf_in64 hw2) x3 (wf_in64 hw3) x4 (wf_in64 hw4) hE).mono fun e W' ⟨he, bel⟩ => ?_
  subst he
  exact ⟨_, rfl, _, _, _, [], _, [], hW', trodAll_mk1 (shut_bool Tryz.underlying4 _), trodAll_cons_mk (Below.trod laidOut (by kernel_rfl) (of_decide_eq_true (by kernel_rfl)) k0 bel lt0) (trodAll_cons_mk (Below.trod laidOut (by kernel_rfl) (of_decide_eq_true (by kernel_rfl)) k1 bel lt1) (trodAll_cons_mk (shut_int Tryz.underlying3 hw2) (trodAll_cons_mk (shut_int Tryz.underlying3 hw3) (trodAll_cons_mk (shut_int Tryz.underlying3 hw4) (trodAll_mk0))))), rfl, bel.frame _, fun h => by cases h⟩

theorem row_holds : Rows.LightPowersSaid :=
  OpenClaim.holds_of_wide 3 Tryz.f3 rfl rfl rfl rfl rfl rfl rfl ⟨rfl, rfl, rfl, rfl, rfl⟩ rfl rfl rfl rfl rfl (by kernel_rfl) Tryz.func3 (by kernel_rfl)
    (of_decide_eq_true (by kernel_rfl)) (by unfold Func.isWrapper; first | (rw [if_pos (by decide +kernel)]; kernel_rfl) | (rw [if_neg (by decide +kernel)]; exact ⟨rfl, rfl⟩))
    (fun os started H enc _ => lifted os started H enc)

/-- ████ THE STATEMENT ████ -/
theorem proved : Rows.LightPowersCardSaid :=
  Claim7.holds_tied_plain_at .later [] [.data, .data, .handle, .sentinel, .sentinel, .sentinel, .sentinel, .sentinel, .sentinel, .sentinel, .sentinel, .sentinel, .sentinel, .data, .data, .data, .data, .data] true (true, "e799238afa6b2e53bf00ce9695d091e3be7bc9a12054242af71c8f7b3f49d23a") true
    row_holds (fun _ h => by cases h) (by kernel_rfl) (fun _ h => by cases h) lightPowers_row_tie rfl ⟨rfl, rfl⟩ (by kernel_rfl) rfl
    (fun f fn hf hfn => by
      obtain rfl : f = 3 := Option.some.inj ((show Tryz.prog.funcNamed "meridian/meridianlaw4.LightPowers" = some 3 by kernel_rfl).symm.trans hf) |>.symm
      obtain rfl : fn = Tryz.f3 := (Option.some.inj (Tryz.func3.symm.trans hfn)).symm
      exact ⟨by kernel_rfl, fun j t ht => by
        rw [Tryz.params3] at ht
        have hm : t ∈ [22, 23, 3, 3, 3] := by simpa using Array.mem_of_getElem? ht
        have hall : ([22, 23, 3, 3, 3].all fun u => !Tryz.prog.wantsStandIn u) = true := by kernel_rfl
        exact (show Tryz.prog.wantsStandIn t = false by simpa using List.all_eq_true.1 hall t hm)⟩)
    (by kernel_rfl)
#print axioms proved
end Go.Proofs.YtbafddlkeocpeaaGreatDoor.lightPowers
