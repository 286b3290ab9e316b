/- PROVED: meridianlaw4.SpotsMoved answers true for every argument (tied card). -/
import Derived.Test.YthbekddpnkammaaDoorRows
import Derived.Test.YthbekddpnkammaaDoorCards
import Derived.Test.YthbekddpnkammaaDoorTie
import Derived.Test.YthbekddpnkammaaDoorMovW
import Derived.Test.YthbekddpnkammaaDoorPicArg
import Derived.ProofKit
import Derived.LaidMore
import Derived.LaidHandle
import Derived.OpenShut
import Derived.ShutString
import Derived.Stop.Joined
import Derived.SevenTiedAt
import Derived.LaidSub
import Derived.Stop.LaidErr
import Derived.Test.YthbekddpnkammaaDoorSents
namespace Go.Proofs.YthbekddpnkammaaDoor.spotsMoved
open Go.ChangeShapes Go.WideShapes Go.ChangeAt Go.RowKit
open Go.ChangeMaps (open_string shut_string)

theorem own : ownKnob Tryd.prog.godebug = none := by kernel_rfl
theorem laidOut : laidOutB Tryd.prog = true := by kernel_rfl
def fewS : List (String × List UInt8) := [("meridian/api.ErrBound", [109, 101, 114, 105, 100, 105, 97, 110, 58, 32, 98, 111, 117, 110, 100]), ("meridian/api.ErrShape", [109, 101, 114, 105, 100, 105, 97, 110, 58, 32, 115, 104, 97, 112, 101])]
theorem plainOnes : (Rows.spotsMovedRow.laid.filter fun x => x.2.handleName?.isNone) = fewS.map laidOf := by kernel_rfl
/-- What the condition gives of the few errors. -/
theorem one_of_laid {W : World} (h : laidMetH Tryd.prog Rows.spotsMovedRow.laid W) : ∃ ad, Errs W ad [1, 4] := by
  obtain ⟨h1, _⟩ := laidMetH_iff.1 h
  rw [plainOnes] at h1
  have hn1 : Tryd.prog.globalNamed "meridian/api.ErrBound" = some 1 := by kernel_rfl
  have ht1 : (Tryd.prog.globals[1]?).map (·.type) = some 31 := by kernel_rfl
  have hn4 : Tryd.prog.globalNamed "meridian/api.ErrShape" = some 0 := by kernel_rfl
  have ht4 : (Tryd.prog.globals[0]?).map (·.type) = some 31 := by kernel_rfl
  obtain ⟨ps, hv, hnd, hok⟩ := h1
  obtain ⟨al, _, _, hat⟩ := sents_list fewS ps hv (fun x hx => by
    have hx' : x = ("meridian/api.ErrBound", [109, 101, 114, 105, 100, 105, 97, 110, 58, 32, 98, 111, 117, 110, 100]) ∨ x = ("meridian/api.ErrShape", [109, 101, 114, 105, 100, 105, 97, 110, 58, 32, 115, 104, 97, 112, 101]) := by simpa [fewS] using hx
    rcases hx' with rfl | rfl
    · exact ⟨_, hn1, ht1⟩
    · exact ⟨_, hn4, ht4⟩) hok
  obtain ⟨a1, _, h21⟩ := hat 0 (by decide)
  obtain ⟨a4, _, h24⟩ := hat 1 (by decide)
  refine ⟨fun k => if k = 1 then a1 else a4, fun i hi => ?_⟩
  have hi' : i = 1 ∨ i = 4 := by simpa using hi
  rcases hi' with rfl | rfl
  · simpa [errV, errG] using World.var?_cell hn1 h21 0
  · simpa [errV, errG] using World.var?_cell hn4 h24 0

theorem door_met (os : Os) (args : Array Value) : laidMetH Tryd.prog Rows.spotsMovedRow.laid ((World.doorLaid Tryd.prog 206 os).forCall (fun _ _ => 0) ⟨#[], args, []⟩).memory :=
  laidMetH_of_parts3 (fuel := 8) (laidMet_of_run' 8 (by kernel_rfl) (by kernel_rfl)) (by kernel_rfl) (by kernel_rfl)

set_option maxRecDepth 100000 in
theorem lifted (os : Os) (started : os.Started) (H : Type) (enc : TypeId × Value → H) :
    ReturnsInHanded {} Tryd.checked os 3 .any (fun w args => (Rows.spotsMovedSpec.pre enc Tryd.prog Tryd.f3 [] false w args ∧ laidMetH Tryd.prog Rows.spotsMovedRow.laid w) ∧ sizedMet enc Tryd.prog Tryd.f3 (OpenSpec.ofChange Rows.spotsMovedSpec) false w args)
      (Rows.spotsMovedSpec.post enc Tryd.prog Tryd.f3 false true false false) := by
  refine returnsInHanded_of_change_and (C := Tryd.checked) (X := fun w _ => laidMetH Tryd.prog Rows.spotsMovedRow.laid w) (fun _ _ _ hh h => h.of_heap hh) own started (by kernel_rfl) Tryd.func3
    (ChangeSpec.witness_shaped (enc := enc) (C := Tryd.checked) (os := os) (X := fun w _ => laidMetH Tryd.prog Rows.spotsMovedRow.laid w) false (World.doorLaid Tryd.prog 206 os) #[.pointer none, .int .i64 0, .int .i64 0, .int .i64 0] 8 rfl (World.shaped_of_RefB (by kernel_rfl) (by kernel_rfl)) (by kernel_rfl) (by kernel_rfl) (by kernel_rfl) (door_met os _)) ?_
  intro W base args ds gs before hval0 hW _ _ hL hsz
  have hval : ∀ (j : Nat) t v, Tryd.f3.params[j]? = some t → args[j]? = some v → Value.okWide Tryd.prog W .any base t v := hval0
  have hW' := hW
  obtain ⟨p, q, hA0, hV, rfl, hfz, hnd⟩ := hW
  have hA : DataW.TrodAll enc Tryd.prog W 0 (fun _ => true) true Tryd.f3.params.toList args.toList ds p := hA0
  rw [Tryd.params3] at hA hval
  obtain ⟨v0, vs0, d0, ds0, p0, q0, hargs, rfl, rfl, h0, r0⟩ := trodAll_cons hA
  obtain ⟨v1, vs1, d1, ds1, p1, q1, rfl, rfl, rfl, h1, r1⟩ := trodAll_cons r0
  obtain ⟨v2, vs2, d2, ds2, p2, q2, rfl, rfl, rfl, h2, r2⟩ := trodAll_cons r1
  obtain ⟨v3, vs3, d3, ds3, p3, q3, rfl, rfl, rfl, h3, r3⟩ := trodAll_cons r2
  obtain ⟨rfl, rfl, rfl⟩ := trodAll_nil r3
  obtain rfl : args = #[v0, v1, v2, v3] := by cases args; simp_all
  obtain ⟨rfl, rfl⟩ := trodVars_none hV
  have k0 := h0
  have lt0 : ∀ x ∈ p0, x.block < W.heap.size := by obtain ⟨m, hm⟩ := k0; exact DataW.trod_lt m _ _ _ hm
  obtain ⟨x0, rfl, hT0⟩ : ∃ x, v0 = .pointer x ∧ PicP W x := open_pic (hval 0 22 v0 rfl rfl) h0
  obtain ⟨x1, rfl, rfl, rfl, hw1⟩ := open_int Tryd.underlying3 (hval 1 3 v1 rfl rfl) h1
  obtain ⟨x2, rfl, rfl, rfl, hw2⟩ := open_int Tryd.underlying3 (hval 2 3 v2 rfl rfl) h2
  obtain ⟨x3, rfl, rfl, rfl, hw3⟩ := open_int Tryd.underlying3 (hval 3 3 v3 rfl rfl) h3
  obtain ⟨ad, hE⟩ := one_of_laid hL
  clear hA0 hval0
  refine (spotsMoved_any ad x0 hT0 x1 (wf_in64 hw1) x2 (wf_in64 hw2) x3 (wf_in64 hw3) hE).mono fun e W' ⟨he, bel⟩ => ?_
  subst he
  exact ⟨_, rfl, _, _, _, [], _, [], hW', trodAll_mk1 (shut_bool Tryd.underlying4 _), trodAll_cons_mk (Below.trod laidOut (by kernel_rfl) (of_decide_eq_true (by kernel_rfl)) k0 bel lt0) (trodAll_cons_mk (shut_int Tryd.underlying3 hw1) (trodAll_cons_mk (shut_int Tryd.underlying3 hw2) (trodAll_cons_mk (shut_int Tryd.underlying3 hw3) (trodAll_mk0)))), rfl, bel.frame _, fun h => by cases h⟩

theorem row_holds : Rows.SpotsMovedSaid :=
  OpenClaim.holds_of_wide 3 Tryd.f3 rfl rfl rfl rfl rfl rfl rfl ⟨rfl, rfl, rfl, rfl, rfl⟩ rfl rfl rfl rfl rfl (by kernel_rfl) Tryd.func3 (by kernel_rfl)
    (of_decide_eq_true (by kernel_rfl)) (by unfold Func.isWrapper; first | (rw [if_pos (by decide +kernel)]; kernel_rfl) | (rw [if_neg (by decide +kernel)]; exact ⟨rfl, rfl⟩))
    (fun os started H enc _ => lifted os started H enc)

/-- ████ THE STATEMENT ████ -/
theorem proved : Rows.SpotsMovedCardSaid :=
  Claim7.holds_tied_plain_at .later [] [.sentinel, .sentinel] true (true, "c9dc5c97818010b9566d127e21aee0d641a34eccd157d901b514a6778f0100bb") true
    row_holds (fun _ h => by cases h) (by kernel_rfl) (fun _ h => by cases h) spotsMoved_row_tie rfl ⟨rfl, rfl⟩ (by kernel_rfl) rfl
    (fun f fn hf hfn => by
      obtain rfl : f = 3 := Option.some.inj ((show Tryd.prog.funcNamed "meridian/meridianlaw4.SpotsMoved" = some 3 by kernel_rfl).symm.trans hf) |>.symm
      obtain rfl : fn = Tryd.f3 := (Option.some.inj (Tryd.func3.symm.trans hfn)).symm
      exact ⟨by kernel_rfl, fun j t ht => by
        rw [Tryd.params3] at ht
        have hm : t ∈ [22, 3, 3, 3] := by simpa using Array.mem_of_getElem? ht
        have hall : ([22, 3, 3, 3].all fun u => !Tryd.prog.wantsStandIn u) = true := by kernel_rfl
        exact (show Tryd.prog.wantsStandIn t = false by simpa using List.all_eq_true.1 hall t hm)⟩)
    (by kernel_rfl)
#print axioms proved
end Go.Proofs.YthbekddpnkammaaDoor.spotsMoved
