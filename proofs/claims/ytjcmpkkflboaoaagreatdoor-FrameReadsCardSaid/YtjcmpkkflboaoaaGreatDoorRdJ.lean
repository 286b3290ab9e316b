/- frame.Read: jumps; what it answers. -/
import Derived.Test.YtjcmpkkflboaoaaGreatDoorWrt
import Derived.Test.YtjcmpkkflboaoaaGreatDoorWrE
import Derived.Test.YtjcmpkkflboaoaaGreatDoorAto
import Derived.WalkMore
import Derived.ScopeJumps
namespace Go.Proofs.YtjcmpkkflboaoaaGreatDoor
open Go.RowKit

/-- A scope with jumps on to one label behind: what stands there is walked at each jump. -/
theorem wp_scope_inline {P : Program} {a : Act} {w : World} {Q : Exit → Act → World → Prop} {c rest : Code} (l : Nat) (hf : findLabel c l = some rest)
    (first : c.wp P (Exit.jump l (fun a w => rest.wp P (Exit.noGoto Q) a w) Q) a w) : (Code.scope c).wp P Q a w :=
  wp_scope_jumps l _ (fun _ _ => 0) hf first (fun a w h => Code.wp_mono (fun e a w hq => by
    cases e with
    | goto l' => exact hq.elim
    | normal => exact hq
    | exit id => exact hq
    | ret => exact hq
    | panic ch => exact hq
    | outgrown => exact hq) h)
theorem sl_end (b : List UInt8) (t : Nat) {x : UInt8} (hx : b[t + 3]? = some x) : sl b t 4 = [69, 78, 68, 32] ↔ sl b t 3 = [69, 78, 68] ∧ x = 32 := by
  have e : sl b t 4 = sl b t 3 ++ [x] := by
    unfold sl
    rw [List.take_add_one, List.getElem?_drop, hx]
    rfl
  have h4 : t + 3 < b.length := (List.getElem?_eq_some_iff.1 hx).1
  have h3 : (sl b t 3).length = 3 := sl_len (by omega)
  rw [e]
  constructor
  · intro h
    have h1 := List.append_inj (s₂ := [69, 78, 68]) (t₂ := [32]) h (by rw [h3]; rfl)
    refine ⟨h1.1, ?_⟩
    have h2 := h1.2
    injection h2
  · rintro ⟨h1, rfl⟩
    rw [h1]
    rfl
theorem BIn.sl {w : World} {b o : Nat} {l : List UInt8} (h : BIn w b o l) {t n : Nat} : BIn w b (o + t) (Go.Proofs.YtjcmpkkflboaoaaGreatDoor.sl l t n) := fun i x hx => by
  have hi : i < n := by
    have := (List.getElem?_eq_some_iff.1 hx).1
    have := sl_le l t n
    omega
  rw [sl_get hi] at hx
  rw [Nat.add_assoc]
  exact h (t + i) x hx
theorem cardL_at (b : List UInt8) (q : Nat) : cardL (sl b (80 * q) 80) = cardAt b q := by
  unfold cardL cardAt
  rw [sl_sl _ (by decide), sl_sl _ (by decide), Nat.add_zero]
/-- What Read answers. -/
def RdPost (b : List UInt8) (w0 : World) (ad : Nat → Addr) (e : Ending) (w' : World) : Prop :=
  ((∃ V K f cs g np capp a6 cc, FileV V K f cs ∧ b = fileL V K f cs ∧ e = .returned (.tuple #[.agg #[.int .i64 (V : Nat), .int .i64 (K : Nat), .slice (some ⟨g, 0, none⟩) np capp], .slice (some a6) cs.length cc, .nilIface]) ∧ np = V * K ∧ (IRow w' (some ⟨g, 0, none⟩) np f ∧ w0.heap.size ≤ g) ∧ CRow w' (some a6) cs ∧ w0.heap.size ≤ a6.block) ∨
    (¬ IsFile b ∧ e = .returned (.tuple #[.agg #[.int .i64 0, .int .i64 0, .slice none 0 0], .slice none 0 0, errV ad 7]))) ∧ Below w0.heap.size w0 w'
theorem RdPost.no {b : List UInt8} {w0 w' : World} {ad : Nat → Addr} (h : ¬ IsFile b) (hb : Below w0.heap.size w0 w') : RdPost b w0 ad (.returned (.tuple #[.agg #[.int .i64 0, .int .i64 0, .slice none 0 0], .slice none 0 0, errV ad 7])) w' := ⟨Or.inr ⟨h, rfl⟩, hb⟩
theorem CRow.set {w : World} {bR oR : Nat} {cs : List Crd} (h : CRow w (some ⟨bR, oR, none⟩) cs) {g k : Nat} {v : Value} (hne : ¬ bR = g) : CRow (w.setCell ⟨g, k, none⟩ v) (some ⟨bR, oR, none⟩) cs := by
  rcases h with h | ⟨b, o, e, h⟩
  · exact Or.inl h
  · obtain ⟨rfl, rfl⟩ : bR = b ∧ oR = o := by cases e; exact ⟨rfl, rfl⟩
    refine Or.inr ⟨bR, oR, rfl, fun i hi => ?_⟩
    obtain ⟨⟨h1, h2⟩, h3⟩ := h i hi
    refine ⟨⟨?_, ?_⟩, h3⟩
    · rw [← h1]; exact World.cell?_setCell_far _ _ _ _ (Ne.symm hne)
    · rw [← h2]; exact World.cell?_setCell_far _ _ _ _ (Ne.symm hne)
theorem CRow.drop6 {w : World} {bR oR q capp : Nat} {cs : List Crd} (h : CRow w (some ⟨bR, oR, none⟩) cs) (hq : cs.length = q) (h6 : 6 ≤ q) (hc : q ≤ capp) : CRow w (some (if capp = 6 then ⟨bR, oR, none⟩ else ⟨bR, oR + 12, none⟩)) (cs.drop 6) := by
  by_cases c : capp = 6
  · exact Or.inl (List.drop_eq_nil_of_le (by omega))
  · rw [if_neg c]
    rcases h with h | ⟨b, o, e, h⟩
    · exact Or.inl (by rw [h]; rfl)
    · obtain ⟨rfl, rfl⟩ : bR = b ∧ oR = o := by cases e; exact ⟨rfl, rfl⟩
      refine Or.inr ⟨bR, oR + 12, rfl, fun i hi => ?_⟩
      rw [List.length_drop] at hi
      have e : (cs.drop 6).getD i ([], []) = cs.getD (6 + i) ([], []) := by
        rw [List.getD_eq_getElem?_getD, List.getD_eq_getElem?_getD, List.getElem?_drop]
      obtain ⟨⟨h1, h2⟩, h3⟩ := h (6 + i) (by omega)
      unfold nmC vlC at *
      rw [e]
      refine ⟨⟨?_, ?_⟩, h3⟩
      · rw [show oR + 12 + i * 2 = oR + (6 + i) * 2 by omega]; exact h1
      · rw [show oR + 12 + i * 2 + 1 = oR + (6 + i) * 2 + 1 by omega]; exact h2
theorem setS {w : World} {a : Addr} {u v : Value} (h : w.cell? a = some u) : (w.setCell a v).cell? a = some v := by
  apply World.cell?_setCell_same
  exact h
theorem setO {w : World} {b o k : Nat} {v : Value} (h : o ≠ k) : (w.setCell ⟨b, o, none⟩ v).cell? ⟨b, k, none⟩ = w.cell? ⟨b, k, none⟩ := by
  apply World.cell?_setCell_other
  intro e
  cases e
  exact h rfl
theorem slice6 (W : World) (bR oR q capp : Nat) (h6 : 6 ≤ q) : (Instr.slice 23 (.slice (some ⟨bR, oR, none⟩) q capp) (some (.int .i64 6)) none none).run Tryz.prog W = .ok (.slice (some (if capp = 6 then ⟨bR, oR, none⟩ else ⟨bR, oR + 12, none⟩)) (q - 6) (capp - 6)) W := by
  have hz : (sizeOf 51).run Tryz.prog W = .ok 2 W := by kernel_rfl
  have ht := Tryz.underlying23
  have ht' : Tryz.prog.underlying 23 = some (.slice (Tryz.prog.elem 23)) := by simp [Program.elem, ht]
  have he : Tryz.prog.elem 23 = 51 := by simp [Program.elem, ht]
  rw [run_slice_l W 23 _ _ _ ht' .i64 6 (by decide) (by omega)]
  rw [he, hz]
  by_cases c : capp = 6
  · simp [Result.andThen, sliced, c]
  · simp [Result.andThen, sliced, c, Addr.add]
end Go.Proofs.YtjcmpkkflboaoaaGreatDoor
