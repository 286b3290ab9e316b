/- math/big's QuoRem by a turn: its first statement. -/
import Derived.Test.YtbafddlkeocpeaaGreatDoorBgA
import Derived.Deep.CutBlock
import Derived.Deep.DeepCutAuto
namespace Go.Proofs.YtbafddlkeocpeaaGreatDoor
open Go.RowKit

/-- Behind the division: the rest's words at block g, of kr (none or one); the quotient's at another. -/
structure Mid (w : World) (B p pq pt g gt : Nat) (neg : Bool) (P kq cq kr : Nat) (h : Nat) : Prop where
  rest : P % 1296000000000 = 0 ∧ kr = 0 ∨ P % 1296000000000 ≠ 0 ∧ kr = 1
  op : w.heap[p]? = some (.cells #[.bool neg, .slice (some ⟨g, 0, none⟩) kr 6] 52)
  oq : w.heap[pq]? = some (.cells #[.bool false, .slice (some ⟨h, 0, none⟩) kq cq] 52)
  ot : w.heap[pt]? = some (.cells #[.bool false, .slice (some ⟨gt, 0, none⟩) 1 1] 52)
  og : ∃ cs : Array Value, cs.size = 6 ∧ w.heap[g]? = some (.cells cs 71) ∧ (kr = 1 → cs[0]? = some (.int .u64 ((P % 1296000000000 : Nat) : Int)))
  ogt : w.heap[gt]? = some (.cells #[.int .u64 1296000000000] 71)

theorem mid_made {w w1 : World} {B p pq pt g gt : Nat} {neg : Bool} {P k kq cq kr h : Nat} (hR : Rest w w1 B g P kr)
    (op : w.heap[p]? = some (.cells #[.bool neg, .slice (some ⟨g, 0, none⟩) k 6] 52)) (oq : w.heap[pq]? = some (.cells #[.bool false, .slice none 0 0] 52))
    (ot : w.heap[pt]? = some (.cells #[.bool false, .slice (some ⟨gt, 0, none⟩) 1 1] 52)) (ogt : w.heap[gt]? = some (.cells #[.int .u64 1296000000000] 71))
    (n1 : p ≠ pq) (n2 : p ≠ pt) (n3 : pq ≠ pt) (n4 : g ≠ p) (n5 : g ≠ pq) (n6 : g ≠ pt) (n7 : gt ≠ p) (n8 : gt ≠ pq) (n9 : gt ≠ g) (hBp : B ≤ p) (hBq : B ≤ pq) :
    (Mid ((w1.setCell ⟨pq, 1, none⟩ (.slice (some ⟨h, 0, none⟩) kq cq)).setCell ⟨p, 1, none⟩ (.slice (some ⟨g, 0, none⟩) kr 6)) B p pq pt g gt neg P kq cq kr h ∧ Below B w ((w1.setCell ⟨pq, 1, none⟩ (.slice (some ⟨h, 0, none⟩) kq cq)).setCell ⟨p, 1, none⟩ (.slice (some ⟨g, 0, none⟩) kr 6))) ∧
    (Mid ((w1.setCell ⟨p, 1, none⟩ (.slice (some ⟨g, 0, none⟩) kr 6)).setCell ⟨pq, 1, none⟩ (.slice (some ⟨h, 0, none⟩) kq cq)) B p pq pt g gt neg P kq cq kr h ∧ Below B w ((w1.setCell ⟨p, 1, none⟩ (.slice (some ⟨g, 0, none⟩) kr 6)).setCell ⟨pq, 1, none⟩ (.slice (some ⟨h, 0, none⟩) kq cq))) := by
  obtain ⟨r1, r2, r3, cs, r4, r5, r6⟩ := hR
  have op1 : w1.heap[p]? = _ := (r2 p (heap_lt op) (Ne.symm n4)).trans op
  have oq1 : w1.heap[pq]? = _ := (r2 pq (heap_lt oq) (Ne.symm n5)).trans oq
  have ot1 : w1.heap[pt]? = _ := (r2 pt (heap_lt ot) (Ne.symm n6)).trans ot
  have ogt1 : w1.heap[gt]? = _ := (r2 gt (heap_lt ogt) n9).trans ogt
  refine ⟨⟨⟨r1, ?_, ?_, ?_, ⟨cs, r4, ?_, r6⟩, ?_⟩, (r3.setCell hBq _).setCell hBp _⟩, ⟨⟨r1, ?_, ?_, ?_, ⟨cs, r4, ?_, r6⟩, ?_⟩, (r3.setCell hBp _).setCell hBq _⟩⟩
  · exact heap_set ((heap_set_far n1 1 _).trans op1) 1 _
  · rw [heap_set_far (Ne.symm n1)]; exact heap_set oq1 1 _
  · rw [heap_set_far (Ne.symm n2), heap_set_far (Ne.symm n3)]; exact ot1
  · rw [heap_set_far n4, heap_set_far n5]; exact r5
  · rw [heap_set_far n7, heap_set_far n8]; exact ogt1
  · rw [heap_set_far n1]; exact heap_set op1 1 _
  · exact heap_set ((heap_set_far (Ne.symm n1) 1 _).trans oq1) 1 _
  · rw [heap_set_far (Ne.symm n3), heap_set_far (Ne.symm n2)]; exact ot1
  · rw [heap_set_far n5, heap_set_far n4]; exact r5
  · rw [heap_set_far n8, heap_set_far n7]; exact ogt1

/-- What is wanted behind the whole. -/
def Done (w w' : World) (B p pt g gt : Nat) (neg : Bool) (P : Nat) : Prop :=
  ∃ kr, (P % 1296000000000 = 0 ∧ kr = 0 ∨ P % 1296000000000 ≠ 0 ∧ kr = 1) ∧ Below B w w' ∧
        w'.heap[p]? = some (.cells #[.bool (decide (kr = 1) && neg), .slice (some ⟨g, 0, none⟩) kr 6] 52) ∧ w'.heap[pt]? = some (.cells #[.bool false, .slice (some ⟨gt, 0, none⟩) 1 1] 52) ∧
        (∃ cs : Array Value, cs.size = 6 ∧ w'.heap[g]? = some (.cells cs 71) ∧ (kr = 1 → cs[0]? = some (.int .u64 ((P % 1296000000000 : Nat) : Int)))) ∧ w'.heap[gt]? = some (.cells #[.int .u64 1296000000000] 71)
theorem done_made {w W : World} {B p pq pt g gt : Nat} {neg : Bool} {P kq cq kr h : Nat} (hM : Mid W B p pq pt g gt neg P kq cq kr h) (hB : Below B w W)
    (n1 : p ≠ pq) (n2 : p ≠ pt) (n3 : pq ≠ pt) (n4 : g ≠ p) (n5 : g ≠ pq) (n7 : gt ≠ p) (n8 : gt ≠ pq) (hBp : B ≤ p) (hBq : B ≤ pq) (b b2 : Bool) (hb : b2 = (decide (kr = 1) && neg)) :
    Done w ((W.setCell ⟨pq, 0, none⟩ (.bool b)).setCell ⟨p, 0, none⟩ (.bool b2)).drew B p pt g gt neg P ∧ Done w ((W.setCell ⟨p, 0, none⟩ (.bool b2)).setCell ⟨pq, 0, none⟩ (.bool b)).drew B p pt g gt neg P := by
  obtain ⟨r1, op, oq, ot, ⟨cs, r4, r5, r6⟩, ogt⟩ := hM
  subst hb
  refine ⟨⟨kr, r1, ((hB.setCell hBq _).setCell hBp _).drew, ?_, ?_, ⟨cs, r4, ?_, r6⟩, ?_⟩, ⟨kr, r1, ((hB.setCell hBp _).setCell hBq _).drew, ?_, ?_, ⟨cs, r4, ?_, r6⟩, ?_⟩⟩
  · exact heap_set ((heap_set_far n1 0 _).trans op) 0 _
  · exact ((heap_set_far (w := W.setCell ⟨pq, 0, none⟩ (.bool b)) (Ne.symm n2) 0 _).trans (heap_set_far (w := W) (Ne.symm n3) 0 _)).trans ot
  · exact ((heap_set_far (w := W.setCell ⟨pq, 0, none⟩ (.bool b)) n4 0 _).trans (heap_set_far (w := W) n5 0 _)).trans r5
  · exact ((heap_set_far (w := W.setCell ⟨pq, 0, none⟩ (.bool b)) n7 0 _).trans (heap_set_far (w := W) n8 0 _)).trans ogt
  · exact (heap_set_far (w := W.setCell ⟨p, 0, none⟩ _) n1 0 _).trans (heap_set op 0 _)
  · exact ((heap_set_far (w := W.setCell ⟨p, 0, none⟩ _) (Ne.symm n3) 0 _).trans (heap_set_far (w := W) (Ne.symm n2) 0 _)).trans ot
  · exact ((heap_set_far (w := W.setCell ⟨p, 0, none⟩ _) n5 0 _).trans (heap_set_far (w := W) n4 0 _)).trans r5
  · exact ((heap_set_far (w := W.setCell ⟨p, 0, none⟩ _) n8 0 _).trans (heap_set_far (w := W) n7 0 _)).trans ogt

set_option maxHeartbeats 16000000 in
set_option maxRecDepth 20000 in
theorem quoRem_n (B p pq pt g gt k P : Nat) (neg : Bool) (_hP0 : P ≠ 0) (hk : k = 1 ∧ P < 18446744073709551616 ∨ k = 2 ∧ 18446744073709551616 ≤ P) (hP : P / 18446744073709551616 < 1296000000000) (w : World) (hB : B ≤ w.heap.size)
    (op : w.heap[p]? = some (.cells #[.bool neg, .slice (some ⟨g, 0, none⟩) k 6] 52)) (oq : w.heap[pq]? = some (.cells #[.bool false, .slice none 0 0] 52))
    (ot : w.heap[pt]? = some (.cells #[.bool false, .slice (some ⟨gt, 0, none⟩) 1 1] 52)) (ogt : w.heap[gt]? = some (.cells #[.int .u64 1296000000000] 71)) (og : w.heap[g]? = some (.cells (prdCells P) 71))
    (n1 : p ≠ pq) (n2 : p ≠ pt) (n3 : pq ≠ pt) (n4 : g ≠ p) (n5 : g ≠ pq) (n6 : g ≠ pt) (n7 : gt ≠ p) (n8 : gt ≠ pq) (n9 : gt ≠ g) (hBp : B ≤ p) (hBq : B ≤ pq) (hBg : B ≤ g) :
    Calls Tryz.prog 42 #[.pointer (some ⟨pq, 0, none⟩), .pointer (some ⟨p, 0, none⟩), .pointer (some ⟨pt, 0, none⟩), .pointer (some ⟨p, 0, none⟩)] w fun e w' =>
      e = .returned (.tuple #[.pointer (some ⟨pq, 0, none⟩), .pointer (some ⟨p, 0, none⟩)]) ∧ Done w w' B p pt g gt neg P := by
  have H := Lib.hid (natDiv_any B g gt k P hk hP w.drew hB hBg og (heap_cell (w := w.drew) ogt 0 rfl))
  have HM : Hid (∀ (w1 : World) (h kq cq kr : Nat), Rest w.drew w1 B g P kr → _) := Lib.hid (fun w1 h kq cq kr hR => mid_made (h := h) (kq := kq) (cq := cq) hR (w := w.drew) op oq ot ogt n1 n2 n3 n4 n5 n6 n7 n8 n9 hBp hBq)
  have FX : Hid (∀ (w1 : World) (kr : Nat), Rest w.drew w1 B g P kr → w1.cell? ⟨pq, 1, none⟩ = some (.slice none 0 0) ∧ w1.cell? ⟨p, 1, none⟩ = some (.slice (some ⟨g, 0, none⟩) k 6) ∧ w1.frozen? ⟨pq, 1, none⟩ = false ∧ w1.frozen? ⟨p, 1, none⟩ = false ∧
      (∀ v, (w1.setCell ⟨pq, 1, none⟩ v).cell? ⟨p, 1, none⟩ = some (.slice (some ⟨g, 0, none⟩) k 6)) ∧ (∀ v, (w1.setCell ⟨pq, 1, none⟩ v).frozen? ⟨p, 1, none⟩ = false) ∧ (∀ v, (w1.setCell ⟨p, 1, none⟩ v).cell? ⟨pq, 1, none⟩ = some (.slice none 0 0)) ∧ (∀ v, (w1.setCell ⟨p, 1, none⟩ v).frozen? ⟨pq, 1, none⟩ = false)) := Lib.hid (fun w1 kr hR => by
    have oq1 : w1.heap[pq]? = _ := (hR.2.1 pq (heap_lt oq) (Ne.symm n5)).trans oq
    have op1 : w1.heap[p]? = _ := (hR.2.1 p (heap_lt op) (Ne.symm n4)).trans op
    exact ⟨heap_cell oq1 1 rfl, heap_cell op1 1 rfl, heap_frozen oq1 1, heap_frozen op1 1, fun v => (World.cell?_setCell_far _ ⟨pq, 1, none⟩ ⟨p, 1, none⟩ _ (Ne.symm n1)).trans (heap_cell op1 1 rfl), fun v => (World.frozen?_setCell _ _ _ _).trans (heap_frozen op1 1), fun v => (World.cell?_setCell_far _ ⟨p, 1, none⟩ ⟨pq, 1, none⟩ _ n1).trans (heap_cell oq1 1 rfl), fun v => (World.frozen?_setCell _ _ _ _).trans (heap_frozen oq1 1)⟩)
  have c1 := heap_cell oq 1 rfl
  have c2 := heap_cell op 1 rfl
  have c3 := heap_cell ot 1 rfl
  clear op oq ot ogt og hk hP
  go_enter Tryz.func42, Tryz.ntmps42
  go_upto_region 1 with (fail)
  go_cut [] (fun wx => ∃ h kq cq kr, kq ≤ 2 ∧ Hid (Mid wx B p pq pt g gt neg P kq cq kr h) ∧ Hid (Below B w wx))
  case first =>
    go_region_with (go_at_call 55; refine H.out.mono ?_; rintro e w1 ⟨h, kq, cq, kr, hq, rfl, hR⟩; obtain ⟨a1, a2, a3, a4, a5, a6, a7, a8⟩ := FX.out w1 kr hR; have Z := Lib.hid (HM.out w1 h kq cq kr hR); clear hR)
    all_goals
      go_wp2_with fail
      go_meet
      exact ⟨h, kq, cq, kr, hq, Lib.hid Z.out.1.1, Lib.hid ((Below.refl B w).drew.trans Z.out.1.2)⟩
  case rest =>
    rename World => wo
    obtain ⟨h, kq, cq, kr, hq, M, hB'⟩ := hcut
    have HD : Hid (∀ b b2, b2 = (decide (kr = 1) && neg) → _) := Lib.hid (fun b b2 hb => done_made (w := w) M.out hB'.out n1 n2 n3 n4 n5 n7 n8 hBp hBq b b2 hb)
    have d0 := heap_cell M.out.oq 0 rfl
    have d1 := heap_cell M.out.oq 1 rfl
    have d2 := heap_cell M.out.op 0 rfl
    have d3 := heap_cell M.out.op 1 rfl
    have d4 := heap_cell M.out.ot 0 rfl
    have f0 := heap_frozen M.out.oq 0
    have f1 := heap_frozen M.out.op 0
    have hkr : kr = 0 ∨ kr = 1 := by have := M.out.rest; omega
    have hkq : kq = 0 ∨ kq = 1 ∨ kq = 2 := by omega
    have m1 : ¬ pq = p := Ne.symm n1
    have m2 : ¬ p = pq := n1
    clear M hB' _hP0 H HM FX c1 c2 c3 hq
    rcases hkq with rfl | rfl | rfl <;> rcases hkr with rfl | rfl
    all_goals
      go_wp2
      go_region
      all_goals
        go_wp2
        go_ret2
        refine ⟨rfl, ?_⟩
        first
          | exact (HD.out _ _ rfl).1
          | exact (HD.out _ _ rfl).2
end Go.Proofs.YtbafddlkeocpeaaGreatDoor
