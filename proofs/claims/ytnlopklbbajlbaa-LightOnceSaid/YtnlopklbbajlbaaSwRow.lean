/- LightOnce: THE ROW: what came in, opened; the run; what is left, shut (after Derived/Test/PmbothmProofs.lean). -/
import Derived.Test.YtnlopklbbajlbaaSwHJ
import Derived.Test.YtnlopklbbajlbaaRows
import Derived.Conc.HoldsTime
import Derived.ProofKit
import Derived.Deep.Slices
import Derived.Deep.Strs
import Derived.ChangeSlices
import Derived.Carry
set_option linter.unusedVariables false
set_option linter.unusedSimpArgs false
namespace Go.Proofs.Ytnlopklbbajlbaa.Sw
open Go Go.Conc Go.ConcN Go.RowKit Go.ChangeShapes Go.WideShapes Go.ChangeAt
open Go.ConcM (OsLater)
open Go.Deep
theorem Try.ownL : ownKnob Try.prog.godebug = none := by kernel_rfl
theorem Try.laidOutL : laidOutB Try.prog = true := by kernel_rfl
theorem c26 : Try.prog.cellsOf 26 = 1 := by kernel_rfl
theorem c9 : Try.prog.cellsOf 9 = 1 := by kernel_rfl
theorem c3 : Try.prog.cellsOf 3 = 1 := by kernel_rfl
theorem b26 : Try.prog.bytesOf 26 = 24 := by kernel_rfl
theorem b9 : Try.prog.bytesOf 9 = 16 := by kernel_rfl
theorem b3 : Try.prog.bytesOf 3 = 8 := by kernel_rfl
theorem w22 : Try.prog.underlying 22 = some (.slice 26) := by kernel_rfl
theorem w26 : Try.prog.underlying 26 = some (.slice 9) := by kernel_rfl
theorem w23 : Try.prog.underlying 23 = some (.slice 3) := by kernel_rfl
theorem w9 : Try.prog.underlying 9 = some .string := by kernel_rfl
theorem w3 : Try.prog.underlying 3 = some (.int .i64) := by kernel_rfl
theorem w4 : Try.prog.underlying 4 = some .bool := by kernel_rfl
theorem add_at {w : World} {a : Addr} {v : Value} (h : w.cell? (a.add 0) = some v) : ∃ b o, a = ⟨b, o, none⟩ := by
  have h0 : a.add 0 = a := by simp [Addr.add]
  rw [h0] at h
  obtain ⟨b, o, sp⟩ := a
  have : sp = none := World.cell?_spot h
  subst this
  exact ⟨b, o, rfl⟩
section
variable {H : Type} {enc : TypeId × Value → H} {W : World}
theorem weightsAll_mem {P : Program} {t : TypeId} : ∀ {ds : List (DataW H)} {d : DataW H}, d ∈ ds → ∀ x, x ∈ d.weights P t → x ∈ DataW.weightsAll P t ds
  | e :: ds, d, h, x, hx => by
    simp only [DataW.weightsAll, List.mem_append]
    rcases List.mem_cons.1 h with rfl | h
    · exact .inl hx
    · exact .inr (weightsAll_mem h x hx)
/-- A row of names. -/
theorem open_row {v : Value} {d : DataW H} {ps : List MemPlace} {n : Nat} (h : DataW.trod enc Try.prog W 0 (fun _ => true) true n 26 [v] = some (d, ps)) (hw : ∀ x, x ∈ d.weights Try.prog 26 → x ≤ reachBytes) :
    ∃ (q : Option Addr) (len cap : Nat) (s : Nat → ByteArray), v = .slice q len cap ∧ (0 < len → ∃ b o, q = some ⟨b, o, none⟩ ∧ ∀ k, k < len → W.cell? ⟨b, o + k, none⟩ = some (.string (s k))) ∧ len ≤ 281474976710656 := by
  rcases open_strs w26 w9 c9 h with ⟨h0, _⟩ | ⟨a, len, cap, m, Sx, h1, _, h2, h3, h4, h5, h6⟩
  · simp at h0
    exact ⟨none, 0, 0, fun _ => ⟨#[]⟩, h0, fun h => absurd h (by decide), by decide⟩
  · simp at h1
    have hm : m = cap := by simpa using h4
    subst hm
    refine ⟨some a, len, m, Sx, h1, fun h0 => ?_, ?_⟩
    · obtain ⟨b, o, rfl⟩ := add_at (h6 0 (by omega)).1
      exact ⟨b, o, rfl, fun k hk => by have := (h6 k (by omega)).1; rw [add_mk] at this; exact this⟩
    · obtain ⟨rfl, _⟩ := Prod.mk.inj h5
      have := hw ((len + (m - len)) * 16) (by simp [DataW.weights, w26, b9])
      simp only [reachBytes] at this
      omega
/-- WHAT CAME IN. -/
theorem inp_of {v0 v1 : Value} {d0 d1 : DataW H} {p0 p1 : List MemPlace} {n0 n1 : Nat} (h0 : DataW.trod enc Try.prog W 0 (fun _ => true) true n0 22 [v0] = some (d0, p0)) (h1 : DataW.trod enc Try.prog W 0 (fun _ => true) true n1 23 [v1] = some (d1, p1))
    (hw0 : ∀ x, x ∈ d0.weights Try.prog 22 → x ≤ reachBytes) (hw1 : ∀ x, x ∈ d1.weights Try.prog 23 → x ≤ reachBytes) :
    ∃ lp L lc wp K wc rq rn rc s wk, v0 = .slice lp L lc ∧ v1 = .slice wp K wc ∧ Inp W lp L wp K rq rn rc s wk := by
  obtain ⟨wp, K, wc, wk, e1, hwp, hK⟩ : ∃ (wp : Option Addr) (K wc : Nat) (wk : Nat → Int), v1 = .slice wp K wc ∧ (0 < K → ∃ b o, wp = some ⟨b, o, none⟩ ∧ ∀ i, i < K → W.cell? ⟨b, o + i, none⟩ = some (.int .i64 (wk i))) ∧ K ≤ 281474976710656 := by
    rcases open_ints w23 w3 c3 h1 with ⟨e, _⟩ | ⟨a, len, cap, zs, e, _, h2, h3, h4, h5, h6, _⟩
    · simp at e
      exact ⟨none, 0, 0, fun _ => 0, e, fun h => absurd h (by decide), by decide⟩
    · simp at e
      have hm : zs.length = cap := by simpa using h4
      refine ⟨some a, len, cap, fun i => zs.getD i 0, e, fun h0 => ?_, ?_⟩
      · obtain ⟨b, o, rfl⟩ := add_at (h6 0 (by omega))
        exact ⟨b, o, rfl, fun k hk => by have := h6 k (by omega); rw [add_mk] at this; exact this⟩
      · obtain ⟨rfl, _⟩ := Prod.mk.inj h5
        have := hw1 (((lits (H := H) .i64 (zs.take len)).length + (lits (H := H) .i64 (zs.drop len)).length) * 8) (by simp [DataW.weights, w23, b3])
        simp [lits, reachBytes] at this
        omega
  rcases open_slice1 w22 c26 h0 with ⟨e0, _⟩ | ⟨a, len, cap, m, n, V, D, Pl, e0, _, h2, h3, h4, h5, h6⟩
  · simp at e0
    exact ⟨none, 0, 0, wp, K, wc, fun _ => none, fun _ => 0, fun _ => 0, fun _ _ => ⟨#[]⟩, wk, e0, e1, fun h => absurd h (by decide), fun i h => absurd h (by omega), hwp, by decide, hK, fun i h => absurd h (by omega)⟩
  · simp at e0
    have hm : m = cap := by simpa using h4
    subst hm
    obtain ⟨rfl, _⟩ := Prod.mk.inj h5
    have hwr : ∀ i, i < len → ∀ x, x ∈ (D i).weights Try.prog 26 → x ≤ reachBytes := fun i hi x hx => by
      refine hw0 x ?_
      simp only [DataW.weights, w22, List.mem_cons, List.mem_append]
      exact .inr (.inl (weightsAll_mem (List.mem_map.2 ⟨i, List.mem_range.2 hi, rfl⟩) x hx))
    have key : ∀ i, i < len → ∃ z : Option Addr × Nat × Nat × (Nat → ByteArray), V i = .slice z.1 z.2.1 z.2.2.1 ∧ (0 < z.2.1 → ∃ b o, z.1 = some ⟨b, o, none⟩ ∧ ∀ k, k < z.2.1 → W.cell? ⟨b, o + k, none⟩ = some (.string (z.2.2.2 k))) ∧ z.2.1 ≤ 281474976710656 := fun i hi => by
      obtain ⟨q, l, c, s, r1, r2, r3⟩ := open_row (h6 i (by omega)).2 (hwr i hi)
      exact ⟨(q, l, c, s), r1, r2, r3⟩
    obtain ⟨f, hf⟩ := choose_lt key
    refine ⟨some a, len, m, wp, K, wc, fun i => (f i).1, fun i => (f i).2.1, fun i => (f i).2.2.1, fun i => (f i).2.2.2, wk, e0, e1, fun h => ?_, fun i hi h => (hf i hi).2.1 h, hwp, ?_, hK, fun i hi => (hf i hi).2.2⟩
    · obtain ⟨b, o, rfl⟩ := add_at (h6 0 (by omega)).1
      refine ⟨b, o, rfl, fun i hi => ?_⟩
      have := (h6 i (by omega)).1
      rw [add_mk, (hf i hi).1] at this
      exact this
    · have := hw0 ((len + (m - len)) * 24) (by simp [DataW.weights, w22, b26])
      simp only [reachBytes] at this
      omega
end
end Go.Proofs.Ytnlopklbbajlbaa.Sw
