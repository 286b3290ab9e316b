/- PROVED: meridianlaw1.TickOrder answers true for every table, instant and step (tied card). -/
import Derived.Test.YtlhfmeekbijhgaaDoorRows
import Derived.Test.YtlhfmeekbijhgaaDoorCards
import Derived.Test.YtlhfmeekbijhgaaDoorTie
import Derived.Test.YtlhfmeekbijhgaaDoorOrder
import Derived.Test.YtlhfmeekbijhgaaDoorLeaps
import Derived.ProofKit
import Derived.LaidMore
import Derived.OpenShut
import Derived.ShutString
import Derived.Stop.Joined
import Derived.Stop.LaidErr
import Derived.SevenTiedAt
namespace Go.Proofs.YtlhfmeekbijhgaaDoor.tickOrder
open Go.ChangeShapes Go.WideShapes Go.ChangeAt Go.RowKit

theorem own : ownKnob Tryd.prog.godebug = none := by kernel_rfl
theorem laidOut : laidOutB Tryd.prog = true := by kernel_rfl
theorem g1 : Tryd.prog.globalNamed "meridian/api.ErrBound" = some 1 := by kernel_rfl
theorem g2 : Tryd.prog.globalNamed "meridian/api.ErrTime" = some 2 := by kernel_rfl
theorem g3 : Tryd.prog.globalNamed "meridian/api.ErrTable" = some 3 := by kernel_rfl
theorem t1 : (Tryd.prog.globals[1]?).map (·.type) = some 27 := by kernel_rfl
theorem t2 : (Tryd.prog.globals[2]?).map (·.type) = some 27 := by kernel_rfl
theorem t3 : (Tryd.prog.globals[3]?).map (·.type) = some 27 := by kernel_rfl
theorem star : "*" ++ "errors.errorString" = "*errors.errorString" := by decide
theorem rowE (u : TypeId) (h : Tryd.prog.typeName? 3 u = some "*errors.errorString") : u = 102 :=
  typeName_ptr_named (nm := "errors.errorString") (by rw [star]; kernel_rfl) (by kernel_rfl) (by decide) u (by rw [star]; exact h)
theorem cellsE : Tryd.prog.cellsOf 125 = 1 := by kernel_rfl
theorem cellsS : Tryd.prog.cellsOf 9 = 1 := by kernel_rfl

/-- What the condition gives: the three sentinels. -/
theorem errs_of_laid {W : World} (h : laidMetH Tryd.prog Rows.tickOrderRow.laid W) : ∃ ad, Errs W ad [1, 2, 3] := by
  rw [MakeChecks.laidMetH_plain _ _ _ (by kernel_rfl)] at h
  obtain ⟨a1, _, v1, _, _, _⟩ := laid_sentinel h g1 t1 Tryd.underlying27 rowE Tryd.underlying102 Tryd.underlying125 rfl rfl Tryd.underlying9 cellsE cellsS
  obtain ⟨a2, _, v2, _, _, _⟩ := laid_sentinel h.tail g2 t2 Tryd.underlying27 rowE Tryd.underlying102 Tryd.underlying125 rfl rfl Tryd.underlying9 cellsE cellsS
  obtain ⟨a3, _, v3, _, _, _⟩ := laid_sentinel h.tail.tail g3 t3 Tryd.underlying27 rowE Tryd.underlying102 Tryd.underlying125 rfl rfl Tryd.underlying9 cellsE cellsS
  refine ⟨fun i => if i = 1 then a1 else if i = 2 then a2 else a3, fun i hi => ?_⟩
  simp only [List.mem_cons, List.not_mem_nil, or_false] at hi
  rcases hi with rfl | rfl | rfl
  · simpa [errG, errV] using World.var?_cell g1 v1 0
  · simpa [errG, errV] using World.var?_cell g2 v2 0
  · simpa [errG, errV] using World.var?_cell g3 v3 0

/-- The door's own heap meets the condition. -/
theorem door_met (os : Os) (args : Array Value) : laidMetH Tryd.prog Rows.tickOrderRow.laid ((World.doorLaid Tryd.prog 206 os).forCall (fun _ _ => 0) ⟨#[], args, []⟩).memory :=
  laidMetH_of_parts3 (fuel := 8) (laidMet_of_run' 8 (by kernel_rfl) (by kernel_rfl)) (by kernel_rfl) (by kernel_rfl)

set_option maxRecDepth 100000 in
theorem lifted (os : Os) (started : os.Started) (H : Type) (enc : TypeId × Value → H) :
    ReturnsInHanded {} Tryd.checked os 3 .any (fun w args => (Rows.tickOrderSpec.pre enc Tryd.prog Tryd.f3 [] false w args ∧ laidMetH Tryd.prog Rows.tickOrderRow.laid w) ∧ sizedMet enc Tryd.prog Tryd.f3 (OpenSpec.ofChange Rows.tickOrderSpec) false w args)
      (Rows.tickOrderSpec.post enc Tryd.prog Tryd.f3 false true false false) := by
  refine returnsInHanded_of_change_and (C := Tryd.checked) (X := fun w _ => laidMetH Tryd.prog Rows.tickOrderRow.laid w) (fun _ _ _ hh h => h.of_heap hh) own started (by kernel_rfl) Tryd.func3
    (ChangeSpec.witness_shaped (enc := enc) (C := Tryd.checked) (os := os) (X := fun w _ => laidMetH Tryd.prog Rows.tickOrderRow.laid w) false (World.doorLaid Tryd.prog 206 os) #[.slice none 0 0, .int .i64 0, .int .i64 0] 8 rfl (World.shaped_of_RefB (by kernel_rfl) (by kernel_rfl)) (by kernel_rfl) (by kernel_rfl) (by kernel_rfl) (door_met os _)) ?_
  intro W base args ds gs before hval0 hW _ _ hL _
  have hval : ∀ (j : Nat) t v, Tryd.f3.params[j]? = some t → args[j]? = some v → Value.okWide Tryd.prog W .any base t v := hval0
  have hW' := hW
  obtain ⟨p, q, hA0, hV, rfl, hfz, hnd⟩ := hW
  have hA : DataW.TrodAll enc Tryd.prog W 0 (fun _ => true) true Tryd.f3.params.toList args.toList ds p := hA0
  rw [Tryd.params3] at hA hval
  obtain ⟨v0, vs0, d0, ds0, p0, q0, hargs, rfl, rfl, h0, r0⟩ := trodAll_cons hA
  obtain ⟨v1, vs1, d1, ds1, p1, q1, rfl, rfl, rfl, h1, r1⟩ := trodAll_cons r0
  obtain ⟨v2, vs2, d2, ds2, p2, q2, rfl, rfl, rfl, h2, r2⟩ := trodAll_cons r1
  obtain ⟨rfl, rfl, rfl⟩ := trodAll_nil r2
  obtain rfl : args = #[v0, v1, v2] := by cases args; simp_all
  obtain ⟨rfl, rfl⟩ := trodVars_none hV
  obtain ⟨a0, len0, cap0, rfl⟩ := okWide_slice Tryd.underlying22 (hval 0 22 v0 rfl rfl)
  obtain ⟨t, rfl, rfl, rfl, hwt⟩ := open_int Tryd.underlying3 (hval 1 3 v1 rfl rfl) h1
  obtain ⟨more, rfl, rfl, rfl, hwm⟩ := open_int Tryd.underlying3 (hval 2 3 v2 rfl rfl) h2
  have k0 := h0
  have lt0 : ∀ x ∈ p0, x.block < W.heap.size := by obtain ⟨m, hm⟩ := k0; exact DataW.trod_lt m _ _ _ hm
  obtain ⟨D, A, hT⟩ : ∃ D A, Tab W a0 len0 D A := by
    obtain ⟨fuel, hf⟩ := h0
    exact open_leaps (by simpa [Value.cells] using hf)
  obtain ⟨ad, hE⟩ := errs_of_laid hL
  clear hA0 hval0
  refine (order_any ad D A a0 len0 cap0 t more (wf_in64 hwt) (wf_in64 hwm) W hE hT).mono fun e W' ⟨he, bel⟩ => ?_
  subst he
  exact ⟨_, rfl, _, _, _, [], _, [], hW', trodAll_mk1 (shut_bool Tryd.underlying4 _), (trodAll_cons_mk (Below.trod laidOut (by kernel_rfl) (of_decide_eq_true (by kernel_rfl)) k0 bel lt0) (trodAll_cons_mk (shut_int Tryd.underlying3 hwt) (trodAll_cons_mk (shut_int Tryd.underlying3 hwm) trodAll_mk0))), rfl, bel.frame _, fun h => by cases h⟩

theorem row_holds : Rows.TickOrderSaid :=
  OpenClaim.holds_of_wide 3 Tryd.f3 rfl rfl rfl rfl rfl rfl rfl ⟨rfl, rfl, rfl, rfl, rfl⟩ rfl rfl rfl rfl rfl (by kernel_rfl) Tryd.func3 (by kernel_rfl)
    (of_decide_eq_true (by kernel_rfl)) (by unfold Func.isWrapper; first | (rw [if_pos (by decide +kernel)]; kernel_rfl) | (rw [if_neg (by decide +kernel)]; exact ⟨rfl, rfl⟩))
    (fun os started H enc _ => lifted os started H enc)

/-- ████ THE STATEMENT ████ -/
theorem proved : Rows.TickOrderCardSaid :=
  Claim7.holds_tied_plain_at .later [] [.sentinel, .sentinel, .sentinel] true (true, "6d9dcf61d3513dd1db6669b7c133961aec61846d82d9267efa7d1bfc0ea1a18a") true
    row_holds (fun _ h => by cases h) (by kernel_rfl) (fun _ h => by cases h) tickOrder_row_tie rfl ⟨rfl, rfl⟩ (by kernel_rfl) rfl
    (fun f fn hf hfn => by
      obtain rfl : f = 3 := Option.some.inj ((show Tryd.prog.funcNamed "meridian/meridianlaw1.TickOrder" = some 3 by kernel_rfl).symm.trans hf) |>.symm
      obtain rfl : fn = Tryd.f3 := (Option.some.inj (Tryd.func3.symm.trans hfn)).symm
      exact ⟨by kernel_rfl, fun j t ht => by
        rw [Tryd.params3] at ht
        have hm : t ∈ [22, 3, 3] := by simpa using Array.mem_of_getElem? ht
        have hall : ([22, 3, 3].all fun u => !Tryd.prog.wantsStandIn u) = true := by kernel_rfl
        exact (show Tryd.prog.wantsStandIn t = false by simpa using List.all_eq_true.1 hall t hm)⟩)
    (by kernel_rfl)
#print axioms proved
end Go.Proofs.YtlhfmeekbijhgaaDoor.tickOrder
