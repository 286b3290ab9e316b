/- QuoRem by a turn, of nought. -/
import Derived.Test.YtbafddlkeocpeaaGreatDoorBgA
import Derived.Deep.CutBlock
import Derived.Deep.DeepCutAuto
namespace Go.Proofs.YtbafddlkeocpeaaGreatDoor
open Go.RowKit

set_option maxHeartbeats 4000000 in
set_option maxRecDepth 20000 in
theorem quoRem_0 (B p pq pt gt : Nat) (w : World)
    (op : w.heap[p]? = some (.cells #[.bool false, .slice none 0 0] 52)) (oq : w.heap[pq]? = some (.cells #[.bool false, .slice none 0 0] 52))
    (ot : w.heap[pt]? = some (.cells #[.bool false, .slice (some ⟨gt, 0, none⟩) 1 1] 52)) (ogt : w.heap[gt]? = some (.cells #[.int .u64 1296000000000] 71))
    (n1 : p ≠ pq) (n2 : p ≠ pt) (n3 : pq ≠ pt) (hBp : B ≤ p) (hBq : B ≤ pq) :
    Calls Tryz.prog 42 #[.pointer (some ⟨pq, 0, none⟩), .pointer (some ⟨p, 0, none⟩), .pointer (some ⟨pt, 0, none⟩), .pointer (some ⟨p, 0, none⟩)] w fun e w' =>
      e = .returned (.tuple #[.pointer (some ⟨pq, 0, none⟩), .pointer (some ⟨p, 0, none⟩)]) ∧ Below B w w' ∧ w'.heap[p]? = some (.cells #[.bool false, .slice none 0 0] 52) := by
  have H := Lib.hid (natDiv_0 gt w.drew (heap_cell (w := w.drew) ogt 0 rfl))
  have OP := Lib.hid op
  have OQ := Lib.hid oq
  have c1 := heap_cell op 1 rfl
  have c2 := heap_cell oq 1 rfl
  have c3 := heap_cell ot 1 rfl
  have f1 := heap_frozen op 1
  have f2 := heap_frozen oq 1
  have K0 : Hid (w.drew.cell? ⟨p, 1, none⟩ = some (.slice none 0 0) ∧ w.drew.cell? ⟨pq, 1, none⟩ = some (.slice none 0 0) ∧ w.drew.cell? ⟨pt, 1, none⟩ = some (.slice (some ⟨gt, 0, none⟩) 1 1) ∧ w.drew.frozen? ⟨p, 1, none⟩ = false ∧ w.drew.frozen? ⟨pq, 1, none⟩ = false) := Lib.hid ⟨c1, c2, c3, f1, f2⟩
  have KS : ∀ W : World, (W.cell? ⟨p, 1, none⟩ = some (.slice none 0 0) ∧ W.cell? ⟨pq, 1, none⟩ = some (.slice none 0 0) ∧ W.cell? ⟨pt, 1, none⟩ = some (.slice (some ⟨gt, 0, none⟩) 1 1) ∧ W.frozen? ⟨p, 1, none⟩ = false ∧ W.frozen? ⟨pq, 1, none⟩ = false) →
      ((W.setCell ⟨p, 1, none⟩ (.slice none 0 0)).cell? ⟨p, 1, none⟩ = some (.slice none 0 0) ∧ (W.setCell ⟨p, 1, none⟩ (.slice none 0 0)).cell? ⟨pq, 1, none⟩ = some (.slice none 0 0) ∧ (W.setCell ⟨p, 1, none⟩ (.slice none 0 0)).cell? ⟨pt, 1, none⟩ = some (.slice (some ⟨gt, 0, none⟩) 1 1) ∧ (W.setCell ⟨p, 1, none⟩ (.slice none 0 0)).frozen? ⟨p, 1, none⟩ = false ∧ (W.setCell ⟨p, 1, none⟩ (.slice none 0 0)).frozen? ⟨pq, 1, none⟩ = false) := fun W ⟨a1, a2, a3, a4, a5⟩ =>
        ⟨World.cell?_setCell_same _ _ _ a1, (World.cell?_setCell_far _ ⟨p, 1, none⟩ ⟨pq, 1, none⟩ _ n1).trans a2, (World.cell?_setCell_far _ ⟨p, 1, none⟩ ⟨pt, 1, none⟩ _ n2).trans a3, (World.frozen?_setCell _ _ _ _).trans a4, (World.frozen?_setCell _ _ _ _).trans a5⟩
  have KT : ∀ W : World, (W.cell? ⟨p, 1, none⟩ = some (.slice none 0 0) ∧ W.cell? ⟨pq, 1, none⟩ = some (.slice none 0 0) ∧ W.cell? ⟨pt, 1, none⟩ = some (.slice (some ⟨gt, 0, none⟩) 1 1) ∧ W.frozen? ⟨p, 1, none⟩ = false ∧ W.frozen? ⟨pq, 1, none⟩ = false) →
      ((W.setCell ⟨pq, 1, none⟩ (.slice none 0 0)).cell? ⟨p, 1, none⟩ = some (.slice none 0 0) ∧ (W.setCell ⟨pq, 1, none⟩ (.slice none 0 0)).cell? ⟨pq, 1, none⟩ = some (.slice none 0 0) ∧ (W.setCell ⟨pq, 1, none⟩ (.slice none 0 0)).cell? ⟨pt, 1, none⟩ = some (.slice (some ⟨gt, 0, none⟩) 1 1) ∧ (W.setCell ⟨pq, 1, none⟩ (.slice none 0 0)).frozen? ⟨p, 1, none⟩ = false ∧ (W.setCell ⟨pq, 1, none⟩ (.slice none 0 0)).frozen? ⟨pq, 1, none⟩ = false) := fun W ⟨a1, a2, a3, a4, a5⟩ =>
        ⟨(World.cell?_setCell_far _ ⟨pq, 1, none⟩ ⟨p, 1, none⟩ _ (Ne.symm n1)).trans a1, World.cell?_setCell_same _ _ _ a2, (World.cell?_setCell_far _ ⟨pq, 1, none⟩ ⟨pt, 1, none⟩ _ n3).trans a3, (World.frozen?_setCell _ _ _ _).trans a4, (World.frozen?_setCell _ _ _ _).trans a5⟩
  have K1 := Lib.hid (KS _ K0.out)
  have K2 := Lib.hid (KT _ K0.out)
  have K3 := Lib.hid (KS _ K2.out)
  have K4 := Lib.hid (KT _ K1.out)
  clear KS KT op oq ot ogt
  go_enter Tryz.func42, Tryz.ntmps42
  go_upto_region 1 with (fail)
  go_cut [] (fun wx => wx.heap[p]? = some (.cells #[.bool false, .slice none 0 0] 52) ∧ wx.heap[pq]? = some (.cells #[.bool false, .slice none 0 0] 52) ∧ Hid (Below B w wx))
  case first =>
    go_region_held3 (fun w' => w'.cell? ⟨p, 1, none⟩ = some (.slice none 0 0) ∧ w'.cell? ⟨pq, 1, none⟩ = some (.slice none 0 0) ∧ w'.cell? ⟨pt, 1, none⟩ = some (.slice (some ⟨gt, 0, none⟩) 1 1) ∧ w'.frozen? ⟨p, 1, none⟩ = false ∧ w'.frozen? ⟨pq, 1, none⟩ = false) (first | (exact K0.out) | (exact K1.out) | (exact K2.out) | (exact K3.out) | (exact K4.out) | go_keep) (first | (go_at_call 55; refine H.out.mono ?_; rintro e w1 ⟨rfl, rfl⟩))
    all_goals
      go_wp2_with fail
      go_meet
      exact ⟨heap_set (w := w.setCell ⟨pq, 1, none⟩ _) ((heap_set_far n1 1 _).trans OP.out) 1 _, (heap_set_far (w := w.setCell ⟨pq, 1, none⟩ _) (Ne.symm n1) 1 _).trans (heap_set OQ.out 1 _), Lib.hid ((((Below.refl B w).setCell hBq _).setCell hBp _).drew)⟩
  case rest =>
    obtain ⟨op2, oq2, hB2⟩ := hcut
    rename World => wo
    have d0 := heap_cell oq2 0 rfl
    have d1 := heap_cell oq2 1 rfl
    have d2 := heap_cell op2 0 rfl
    have d3 := heap_cell op2 1 rfl
    have f3 := heap_frozen op2 0
    have f4 := heap_frozen oq2 0
    have HD : Hid (∀ b, (Below B w ((wo.setCell ⟨pq, 0, none⟩ b).setCell ⟨p, 0, none⟩ (.bool false)).drew ∧ ((wo.setCell ⟨pq, 0, none⟩ b).setCell ⟨p, 0, none⟩ (.bool false)).drew.heap[p]? = some (.cells #[.bool false, .slice none 0 0] 52)) ∧ (Below B w ((wo.setCell ⟨p, 0, none⟩ (.bool false)).setCell ⟨pq, 0, none⟩ b).drew ∧ ((wo.setCell ⟨p, 0, none⟩ (.bool false)).setCell ⟨pq, 0, none⟩ b).drew.heap[p]? = some (.cells #[.bool false, .slice none 0 0] 52))) := Lib.hid (fun b => ⟨⟨((hB2.out.setCell hBq _).setCell hBp _).drew, heap_set (w := wo.setCell ⟨pq, 0, none⟩ b) ((heap_set_far n1 0 _).trans op2) 0 _⟩, ⟨((hB2.out.setCell hBp _).setCell hBq _).drew, (heap_set_far (w := wo.setCell ⟨p, 0, none⟩ _) n1 0 _).trans (heap_set op2 0 _)⟩⟩)
    have m1 : ¬ pq = p := Ne.symm n1
    have m2 : ¬ p = pq := n1
    clear op2 oq2 H OP OQ K0 K1 K2 K3 K4
    go_wp2
    go_region
    all_goals
      go_wp2
      go_ret2
      refine ⟨rfl, ?_⟩
      first
        | exact (HD.out _).1
        | exact (HD.out _).2
end Go.Proofs.YtbafddlkeocpeaaGreatDoor
