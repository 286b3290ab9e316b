/- frame.Write's two tests on cards. -/
import Derived.Test.YtjcmpkkflboaoaaGreatDoorCrdE
namespace Go.Proofs.YtjcmpkkflboaoaaGreatDoor
open Go.RowKit

/-- A card by value. -/
def aggC (c : Crd) : Value := .agg #[.string (bs c.1), .string (bs c.2)]
theorem BoolIs.cases {P : Prop} {e : Ending} (h : BoolIs P e) : (P ∧ e = .returned (.bool true)) ∨ (¬ P ∧ e = .returned (.bool false)) := by
  obtain ⟨b, rfl, hb⟩ := h
  cases b with
  | true => exact Or.inl ⟨hb.1 rfl, rfl⟩
  | false => exact Or.inr ⟨fun p => (Bool.noConfusion (hb.2 p)), rfl⟩
set_option maxHeartbeats 1000000 in
theorem badValue_any (c : Crd) (hc : c.2.length ≤ 9223372036854775807) (w : World) :
    Calls Tryz.prog 21 #[aggC c] w fun e w' => BoolIs (¬ vlOk c.2) e ∧ Below w.heap.size w w' := by
  have hb0 : ∀ o', Below w.heap.size w (w.alloc o') := fun o' => (Below.refl _ _).alloc (Nat.le_refl _) _
  have HB0 := Lib.hid hb0
  have HV := Lib.hid (fun w' => value_any (bs c.2) (by rw [bs_size]; exact hc) w')
  rw [show (bs c.2).data.toList = c.2 by simp [bs]] at HV
  clear hb0
  unfold aggC
  generalize bs c.1 = s at *
  generalize bs c.2 = t at *
  go_enter Tryz.func21, Tryz.ntmps21
  go_wp2_with fail
  refine (HV.out _).mono ?_; rintro e wa ⟨hbo, hb⟩
  have HB := Lib.hid (below_step (HB0.out _) hb)
  clear hb HV
  rcases hbo.cases with ⟨hp, rfl⟩ | ⟨hp, rfl⟩
  · have HP := Lib.hid (BoolIs.f (P := ¬ vlOk c.2) (fun h => h hp))
    clear hp hbo
    go_wp2
    go_ret
    exact ⟨HP.out, HB.out⟩
  · have HP := Lib.hid (BoolIs.t (P := ¬ vlOk c.2) hp)
    clear hp hbo
    go_wp2
    go_ret
    exact ⟨HP.out, HB.out⟩
set_option maxHeartbeats 1000000 in
theorem sameName_any (c : Crd) (nm : List UInt8) (q : Nat) (w : World) (hq : w.cell? ⟨q, 0, none⟩ = some (.string (bs nm))) :
    Calls Tryz.prog 18 #[aggC c, .pointer (some ⟨q, 0, none⟩)] w fun e w' => BoolIs (c.1 = nm) e ∧ Below w.heap.size w w' := by
  have hl := cell_lt hq
  have hb0 : ∀ o', Below w.heap.size w (w.alloc o') := fun o' => (Below.refl _ _).alloc (Nat.le_refl _) _
  have HB0 := Lib.hid hb0
  have hq' : (w.alloc (.cells #[.string (bs c.1), .string (bs c.2)] 51)).cell? ⟨q, 0, none⟩ = some (.string (bs nm)) := by rw [(hb0 _).cell (p := ⟨q, 0, none⟩) hl]; exact hq
  have e1 := bs_toList c.1
  have e2 := bs_toList nm
  clear hb0 hq
  unfold aggC
  by_cases h : c.1 = nm
  · have HP := Lib.hid (BoolIs.t h)
    have he : ((bs c.1).toList == (bs nm).toList) = true := by rw [e1, e2, h, beq_self_eq_true]
    clear e1 e2 h
    generalize bs c.1 = s at *
    generalize bs c.2 = t at *
    generalize bs nm = u at *
    go_enter Tryz.func18, Tryz.ntmps18
    go_wp2
    go_ret
    exact ⟨HP.out, HB0.out _⟩
  · have HP := Lib.hid (BoolIs.f h)
    have he : ((bs c.1).toList == (bs nm).toList) = false := by rw [e1, e2, beq_eq_false_iff_ne]; exact h
    clear e1 e2 h
    generalize bs c.1 = s at *
    generalize bs c.2 = t at *
    generalize bs nm = u at *
    go_enter Tryz.func18, Tryz.ntmps18
    go_wp2
    go_ret
    exact ⟨HP.out, HB0.out _⟩
end Go.Proofs.YtjcmpkkflboaoaaGreatDoor
