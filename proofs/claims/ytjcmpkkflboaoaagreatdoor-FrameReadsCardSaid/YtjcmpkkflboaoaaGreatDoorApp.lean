/- Cards and bytes appended from whatever slice; rows of the first cards. -/
import Derived.Test.YtjcmpkkflboaoaaGreatDoorCrdG
import Derived.Test.YtjcmpkkflboaoaaGreatDoorFilP
import Derived.Laws.OwnMore
namespace Go.Proofs.YtjcmpkkflboaoaaGreatDoor
open Go.RowKit

theorem run_append_none2 {P : Program} {w : World} (base : Nat) (t ty e : TypeId) (i : TypeInfo) (size cc : Nat) (ht : P.underlying t = some (.slice e)) (hi : P.info? e = some i)
    (v : Value) (n : Nat) (xs : List Value) (hown : w.ownsRow base e size v n xs) :
    (Builtin.append_ #[t, t] ty #[v, .slice none 0 cc]).run P w = .ok v w := by
  rcases hown.2 with ⟨rfl, rfl⟩ | ⟨g, cap, cur, rfl, _, _, hnc, _⟩
  · simp [Builtin.append_, run_underlying ht, sizeOf, typeInfo, hi, Builtin.lenOf, Builtin.firstCells]
  · simp [Builtin.append_, run_underlying ht, sizeOf, typeInfo, hi, Builtin.lenOf, Builtin.firstCells, hnc, storeCells]
theorem cells_of_row {w : World} {b o : Nat} {cs : List Crd} (h : ∀ i, i < cs.length → w.cell? ⟨b, o + i * 2, none⟩ = some (.string (bs (nmC cs i))) ∧ w.cell? ⟨b, o + i * 2 + 1, none⟩ = some (.string (bs (vlC cs i)))) :
    ∀ j u, (encC cs)[j]? = some u → w.cell? ((⟨b, o, none⟩ : Addr).add j) = some u := by
  intro j u hu
  have hj : j < cs.length * 2 := by rw [← encC_len]; exact (List.getElem?_eq_some_iff.1 hu).1
  rw [add_litB]
  obtain ⟨e1, e2⟩ := encC_get cs (j / 2) (by omega)
  obtain ⟨h1, h2⟩ := h (j / 2) (by omega)
  by_cases c : j % 2 = 0
  · have e : j = j / 2 * 2 := by omega
    rw [← e] at e1 h1
    rw [e1] at hu
    rw [h1, Option.some.inj hu]
  · have e : j = j / 2 * 2 + 1 := by omega
    rw [← e] at e2
    rw [Nat.add_assoc, ← e] at h2
    rw [e2] at hu
    rw [h2, Option.some.inj hu]
/-- Cards appended to cards that the call owns. -/
theorem GC_append {B : Nat} {w wr : World} {v : Value} {L cs : List Crd} (h : GC B w v L wr) (ca : Option Addr) (cc : Nat) (ty : TypeId) (hc : CRow wr ca cs) (hL : L.length + cs.length ≤ 1000000) :
    ∃ v' w', (Builtin.append_ #[23, 23] ty #[v, .slice ca cs.length cc]).run Tryz.prog wr = .ok v' w' ∧ GC B w v' (L ++ cs) w' := by
  obtain ⟨i0, hi, hz0, hz1, hz2⟩ := info_parts info_card
  have key : ∀ b o, ca = some ⟨b, o, none⟩ → (∀ i, i < cs.length → w.heap.size ≤ wr.heap.size ∧ wr.cell? ⟨b, o + i * 2, none⟩ = some (.string (bs (nmC cs i))) ∧ wr.cell? ⟨b, o + i * 2 + 1, none⟩ = some (.string (bs (vlC cs i)))) →
      ∃ v' w', (Builtin.append_ #[23, 23] ty #[v, .slice ca cs.length cc]).run Tryz.prog wr = .ok v' w' ∧ GC B w v' (L ++ cs) w' := by
    rintro b o rfl hr
    obtain ⟨h1, h4, hB⟩ := h
    have hs := h4.size
    obtain ⟨v', w', hrun, hown, hgrow, _, _⟩ := run_append_own_at (P := Tryz.prog) (w := wr) B 23 ty 51 i0 _ 2 32 Tryz.underlying23 hi hz0 hz1 hz2 rfl (by decide) v L.length (encC L) h1 ⟨b, o, none⟩ cs.length cc (encC cs) (encC_len cs) (cells_of_row (fun i hi => (hr i hi).2)) (encC_cells cs) (by unfold maxLen; omega) (by omega) (by omega)
    refine ⟨v', w', hrun, ?_, h4.grown hgrow (by omega) (fun j hj => (h1.lt j hj).1), hB⟩
    rw [List.length_append, ← encC_app]
    exact hown
  rcases hc with rfl | ⟨b, o, e, hr⟩
  · cases ca with
    | none => exact ⟨v, wr, run_append_none2 B 23 ty 51 i0 2 cc Tryz.underlying23 hi v L.length (encC L) h.1, by rw [List.append_nil]; exact h⟩
    | some a =>
      obtain ⟨h1, h4, hB⟩ := h
      have hs := h4.size
      obtain ⟨v', w', hrun, hown, hgrow, _, _⟩ := run_append_own_at (P := Tryz.prog) (w := wr) B 23 ty 51 i0 _ 2 32 Tryz.underlying23 hi hz0 hz1 hz2 rfl (by decide) v L.length (encC L) h1 a 0 cc [] rfl (fun j u hu => by simp at hu) (fun u hu => by cases hu) (by unfold maxLen; omega) (by simp at hL; omega) (by omega)
      refine ⟨v', w', hrun, ?_, h4.grown hgrow (by omega) (fun j hj => (h1.lt j hj).1), hB⟩
      rw [List.append_nil]
      rw [List.append_nil] at hown
      exact hown
  · exact key b o e (fun i hi => ⟨h.2.1.size, (hr i hi).1⟩)
/-- Bytes appended to bytes that the call owns. -/
theorem GB_append {B : Nat} {w wr : World} {v : Value} {L m : List UInt8} (h : GB B w v L wr) (a : Addr) (cc : Nat) (ty : TypeId) (hc : ∀ j u, (encB m)[j]? = some u → wr.cell? (a.add j) = some u) (hL : L.length + m.length ≤ 1000000) :
    ∃ v' w', (Builtin.append_ #[27, 27] ty #[v, .slice (some a) m.length cc]).run Tryz.prog wr = .ok v' w' ∧ GB B w v' (L ++ m) w' := by
  obtain ⟨i0, hi, hz0, hz1, hz2⟩ := info_parts info_byte
  have hs := h.2.1.size
  have hB := h.2.2
  obtain ⟨v', w', hrun, hown, hgrow, _, _⟩ := run_append_own_at (P := Tryz.prog) (w := wr) B 27 ty 5 i0 _ 1 1 Tryz.underlying27 hi hz0 hz1 hz2 rfl (by decide) v L.length (encB L) h.1 a m.length cc (encB m) (by rw [encB_len, Nat.mul_one]) hc (encB_cells m) (by unfold maxLen; omega) (by omega) (by omega)
  exact ⟨v', w', hrun, h.stepS rfl hown hgrow⟩
theorem GB_append_none {B : Nat} {w wr : World} {v : Value} {L : List UInt8} (h : GB B w v L wr) (cc : Nat) (ty : TypeId) :
    (Builtin.append_ #[27, 27] ty #[v, .slice none 0 cc]).run Tryz.prog wr = .ok v wr := by
  obtain ⟨i0, hi, hz0, hz1, hz2⟩ := info_parts info_byte
  exact run_append_none2 B 27 ty 5 i0 1 cc Tryz.underlying27 hi v L.length (encB L) h.1
/-- Seen from an earlier world. -/
theorem GB.wide {B : Nat} {w w' : World} {v : Value} {l : List UInt8} {wr : World} (h : GB B w' v l wr) (hb : Below w.heap.size w w') (hB : w.heap.size ≤ B) : GB w.heap.size w v l wr := by
  refine ⟨⟨h.1.1, ?_⟩, hb.trans (h.2.1.mono hB), Nat.le_refl _⟩
  rcases h.1.2 with e | ⟨g, cap, cur, e1, e2, e3⟩
  · exact Or.inl e
  · exact Or.inr ⟨g, cap, cur, e1, by omega, e3⟩
theorem allR_take {L : List Crd} {k : Nat} (hk : k < L.length) : allR (L.take (k + 1)) = allR (L.take k) ++ rowC (nmC L k, vlC L k) := by
  have e : L.take (k + 1) = L.take k ++ [(nmC L k, vlC L k)] := by
    rw [List.take_add_one, List.getElem?_eq_getElem hk]
    unfold nmC vlC
    rw [List.getD_eq_getElem?_getD, List.getElem?_eq_getElem hk]
    rfl
  rw [e, allR_one]
end Go.Proofs.YtjcmpkkflboaoaaGreatDoor
