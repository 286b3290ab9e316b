/- LightOnce: THE STATEMENT (after Derived/Test/PmbothmProofs.lean). -/
import Derived.Test.YtnlopklbbajlbaaSwRow
import Derived.OpenShut
set_option linter.unusedVariables false
set_option linter.unusedSimpArgs false
namespace Go.Proofs.Ytnlopklbbajlbaa.lightOnce
open Go Go.Conc Go.ConcN Go.RowKit Go.ChangeShapes Go.WideShapes Go.ChangeAt Go.Proofs.Ytnlopklbbajlbaa.Sw
open Go.ConcM (OsLater)

set_option maxRecDepth 100000 in
theorem lifted (os : Os) (started : os.Started) (H : Type) (enc : TypeId × Value → H) (F : Stop.Interp) :
    ReturnsInLeavingWide Rows.lightOnceRow.assume Try.checked os 3 .any (Rows.lightOnceSpec.pre6 enc Try.prog Try.f3 Rows.lightOnceRow.domain false) ((OpenSpec.ofChange Rows.lightOnceSpec).postWith enc Try.prog Try.f3 F (outsideKept [.timePasses]) false true false) := by
  refine returnsInLeavingWide_of_change_time (C := Try.checked) Try.ownL started Try.func3
    (ChangeSpec.witness6c (enc := enc) (C := Try.checked) ⟨#[], #[.slice none 0 0, .slice none 0 0], []⟩ 8 (by kernel_rfl) (by kernel_rfl) (by kernel_rfl) (by kernel_rfl)) ?_
  intro W base args ds gs before hval0 hW _ hwt _
  have hval : ∀ (j : Nat) t v, Try.f3.params[j]? = some t → args[j]? = some v → Value.okWide Try.prog W .any base t v := hval0
  have hW' := hW
  obtain ⟨p, q, hA0, hV, rfl, _, _⟩ := hW
  have hA : DataW.TrodAll enc Try.prog W 0 (fun _ => true) true Try.f3.params.toList args.toList ds p := hA0
  have hwt' : (DataW.weightsEach Try.prog (Try.f3.params.toList ++ Rows.lightOnceSpec.plain.varTypes Try.prog) (ds ++ gs)).all (· ≤ reachBytes) = true := hwt
  rw [Try.params3] at hA hval hwt'
  obtain ⟨v0, v1, d0, d1, p0, p1, rfl, rfl, rfl, h0, h1⟩ := trodAll_two hA
  obtain ⟨rfl, rfl⟩ := trodVars_none hV
  have hwa : ∀ x, x ∈ d0.weights Try.prog 22 ∨ x ∈ d1.weights Try.prog 23 → x ≤ reachBytes := fun x hx => by
    have := List.all_eq_true.1 hwt' x (by simpa [DataW.weightsEach] using hx)
    simpa using this
  have k0 := h0
  have k1 := h1
  have lt0 : ∀ x ∈ p0, x.block < W.heap.size := by obtain ⟨m, hm⟩ := k0; exact DataW.trod_lt m _ _ _ hm
  have lt1 : ∀ x ∈ p1, x.block < W.heap.size := by obtain ⟨m, hm⟩ := k1; exact DataW.trod_lt m _ _ _ hm
  obtain ⟨a0, l0, c0, rfl⟩ := okWide_slice w22 (hval 0 22 v0 rfl rfl)
  obtain ⟨a1, l1, c1, rfl⟩ := okWide_slice w23 (hval 1 23 v1 rfl rfl)
  obtain ⟨n0, hf0⟩ := h0
  obtain ⟨n1, hf1⟩ := h1
  obtain ⟨lp, L, lc, wp, K, wc, rq, rn, rc, s, wk, e0, e1, hI⟩ := inp_of (v0 := .slice a0 l0 c0) (v1 := .slice a1 l1 c1) (by simpa [Value.cells] using hf0) (by simpa [Value.cells] using hf1) (fun x hx => hwa x (.inl hx)) (fun x hx => hwa x (.inr hx))
  obtain ⟨rfl, rfl, rfl⟩ : a0 = lp ∧ l0 = L ∧ c0 = lc := by simpa using e0
  obtain ⟨rfl, rfl, rfl⟩ : a1 = wp ∧ l1 = K ∧ c1 = wc := by simpa using e1
  clear hA0 hval0
  simp only [List.append_nil] at hW'
  obtain ⟨M, last, o, w', t', r1, r2, r3, v, e, hp, g1, g2, g3, g4⟩ := lightEnds (lc := c0) (wc := c1) hI none
  have he : Frame.enter Try.prog 3 #[.slice a0 l0 c0, .slice a1 l1 c1] .normal = (Go.Conc.base 3).at ⟨#[.slice a0 l0 c0, .slice a1 l1 c1, undef, undef, undef, undef, undef, undef, undef, undef, undef, undef, undef, undef, undef, undef, undef, undef, undef, undef, undef, undef, undef, undef, undef, undef, undef, undef, undef, undef, undef, undef, undef, undef, undef, undef, undef, undef, undef, undef, undef, undef, undef, undef, undef, undef, undef, undef, undef, undef, undef, undef, undef, undef, undef, undef, undef, undef, undef, undef, undef, undef, undef, undef, undef, undef, undef, undef, undef, undef, undef, undef, undef, undef, undef, undef, undef, undef, undef, undef, undef, undef, undef, undef, undef, undef, undef, undef, undef, undef, undef, undef, undef, undef, undef, undef, undef, undef, undef, undef, undef, undef, undef, undef, undef, undef, undef, undef, undef, undef, undef, undef, undef, undef, undef, undef, undef, undef, undef, undef, undef, undef, undef, undef, undef, undef, undef, undef, undef, undef, undef, undef], []⟩ [.code body3] := by
    simp [Frame.enter, Frame.at, Try.func3, Go.Conc.base, body3, Try.f3]
  refine ⟨M, last, o, w', t', ?_, ?_, r3, v, e, ⟨?_, hp.2.os⟩, g1, g2, g3, g4⟩
  · show runNT Try.prog (M + 1) (solo (G (Frame.enter Try.prog 3 #[.slice a0 l0 c0, .slice a1 l1 c1] .normal) []) W) #[] = _
    rw [he, solo_eq_crowd]
    exact r1
  · show runN Try.prog M (solo (G (Frame.enter Try.prog 3 #[.slice a0 l0 c0, .slice a1 l1 c1] .normal) []) W) = _
    rw [he, solo_eq_crowd]
    exact r2
  obtain ⟨rfl, hk⟩ := hp
  have hbel : Below W.heap.size W { w' with os := W.os } := ⟨rfl, hk.tape, hk.output, hk.size, hk.block⟩
  exact ⟨_, _, _, [], _, [], hW', trodAll_mk1 (shut_bool w4 _), trodAll_cons_mk (Below.trod Try.laidOutL (by kernel_rfl) (of_decide_eq_true (by kernel_rfl)) k0 hbel lt0) (trodAll_cons_mk (Below.trod Try.laidOutL (by kernel_rfl) (of_decide_eq_true (by kernel_rfl)) k1 hbel lt1) (trodAll_mk0)), rfl, hbel.frame _, fun h => by cases h⟩

/-- ████ THE STATEMENT ████ -/
theorem proved : Rows.LightOnceSaid :=
  OpenClaim.holds_of_wide_leaving_time 3 Try.f3 rfl rfl rfl rfl rfl rfl rfl ⟨rfl, rfl, rfl, rfl, rfl⟩ rfl rfl rfl rfl rfl (by kernel_rfl) Try.func3 (by kernel_rfl)
    (of_decide_eq_true (by kernel_rfl)) (by unfold Func.isWrapper; first | (rw [if_pos (by decide +kernel)]; kernel_rfl) | (rw [if_neg (by decide +kernel)]; exact ⟨rfl, rfl⟩))
    (fun os started H enc _ F => lifted os started H enc F)
#print axioms proved
end Go.Proofs.Ytnlopklbbajlbaa.lightOnce
