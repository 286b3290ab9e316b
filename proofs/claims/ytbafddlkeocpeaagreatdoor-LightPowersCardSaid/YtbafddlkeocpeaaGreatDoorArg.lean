/- Arguments: whole numbers and floats behind slices. -/
import Derived.Test.YtbafddlkeocpeaaGreatDoorInts
import Derived.Laws.Cover2
import Derived.ChangeSlices
import Derived.Deep.Slices
import Derived.Deep.Grids
namespace Go.Proofs.YtbafddlkeocpeaaGreatDoor
open Go.RowKit Go.ChangeShapes Go.WideShapes Go.Deep

theorem add_plain {w : World} {x : Addr} {v : Value} (h : w.cell? x = some v) : x = ⟨x.block, x.off, none⟩ := by
  have := World.cell?_spot h
  obtain ⟨b, o, s⟩ := x
  simp at this
  subst this
  rfl
theorem open_irow2 {H : Type} {enc : TypeId × Value → H} {w : World} {base : Nat} {spare : Nat → Bool} {held : Bool} {fuel : Nat} {v : Value} {y : DataW H × List MemPlace}
    (h : DataW.trod enc Tryz.prog w base spare held fuel 22 [v] = some y) : ∃ a n cap f, v = .slice a n cap ∧ n ≤ cap ∧ cap ≤ 9223372036854775807 ∧ IRow w a n f ∧ ∀ j, j < n → In64 (f j) := by
  rcases open_ints Tryz.underlying22 Tryz.underlying3 (by kernel_rfl) h with ⟨hcs, _⟩ | ⟨a, len, cap, zs, hcs, _, hl, hm, hz, _, hc, hw⟩
  · simp at hcs
    exact ⟨none, 0, 0, fun _ => 0, hcs, Nat.le_refl _, by omega, Or.inl rfl, fun j hj => absurd hj (Nat.not_lt_zero _)⟩
  · simp at hcs
    have hzl : len ≤ zs.length := by rw [hz]; split <;> omega
    refine ⟨some a, len, cap, fun j => zs.getD j 0, hcs, hl, by unfold maxLen at hm; omega, ?_, fun j hj => ?_⟩
    · by_cases h0 : len = 0
      · exact Or.inl h0
      · have h1 := hc 0 (by omega)
        obtain ⟨b, off, spot⟩ := a
        have hspot : spot = none := by simpa [Addr.add] using World.cell?_spot h1
        subst hspot
        exact Or.inr ⟨b, off, rfl, fun j hj => by have := hc j (by omega); rwa [Addr.add_lit] at this⟩
    · refine wf_in64 (hw _ ?_)
      show zs.getD j 0 ∈ zs
      rw [List.getD_eq_getElem?_getD, List.getElem?_eq_getElem (by omega)]
      exact List.getElem_mem _
theorem trod_float {H : Type} {enc : TypeId × Value → H} {P : Program} {w : World} {base : Nat} {spare : Nat → Bool} {held : Bool} {fuel : Nat} {t : TypeId} {cs : List Value} {x : DataW H × List MemPlace} {k : FloatKind} (ht : P.underlying t = some (.float k)) (h : DataW.trod enc P w base spare held fuel t cs = some x) : ∃ n, cs = [.float k n] := by
  cases fuel with
  | zero => simp [DataW.trod] at h
  | succ n =>
    unfold DataW.trod at h
    rw [ht] at h
    split at h <;> simp_all
theorem open_frow2 {H : Type} {enc : TypeId × Value → H} {w : World} {base : Nat} {spare : Nat → Bool} {held : Bool} {fuel : Nat} {v : Value} {y : DataW H × List MemPlace}
    (h : DataW.trod enc Tryz.prog w base spare held fuel 23 [v] = some y) : ∃ a n cap f, v = .slice a n cap ∧ n ≤ cap ∧ cap ≤ 9223372036854775807 ∧ FRow w a n f := by
  rcases open_slice1 Tryz.underlying23 (by kernel_rfl) h with ⟨hcs, _⟩ | ⟨a, len, cap, m, q, V, D, Pl, hcs, _, hl, hm, hmm, _, hc⟩
  · simp at hcs
    exact ⟨none, 0, 0, fun _ => 0, hcs, Nat.le_refl _, by omega, Or.inl rfl⟩
  · simp at hcs
    have hzl : len ≤ m := by rw [hmm]; split <;> omega
    have hV : ∀ j, ∃ n, j < len → V j = .float .f64 n := fun j => by
      by_cases hj : j < len
      · obtain ⟨n, e⟩ := trod_float Tryz.underlying28 (hc j (by omega)).2
        exact ⟨n, fun _ => by simpa using e⟩
      · exact ⟨0, fun h => absurd h hj⟩
    refine ⟨some a, len, cap, fun j => Classical.choose (hV j), hcs, hl, by unfold maxLen at hm; omega, ?_⟩
    by_cases h0 : len = 0
    · exact Or.inl h0
    · have h1 := (hc 0 (by omega)).1
      obtain ⟨b, off, spot⟩ := a
      have hspot : spot = none := by simpa [Addr.add] using World.cell?_spot h1
      subst hspot
      exact Or.inr ⟨b, off, rfl, fun j hj => by
        have h2 := (hc j (by omega)).1
        rw [Addr.add_lit, Classical.choose_spec (hV j) hj] at h2
        exact h2⟩
end Go.Proofs.YtbafddlkeocpeaaGreatDoor
