/- Instants of both sides (XStampsW's first part). -/
import Derived.Test.YtjdjncfpcbeedaaDoorInstR
import Derived.Test.YtjdjncfpcbeedaaDoorInstNo
import Derived.Test.YtjdjncfpcbeedaaDoorLive
import Derived.Test.YtjdjncfpcbeedaaDoorCoded1
namespace Go.Proofs.YtjdjncfpcbeedaaDoor
open Go.RowKit

/-- The two cells of a stamp that was laid ahead of a call. -/
theorem freshW {w w1 : World} {T : TypeId} {x y : Value} (hb : Below (w.alloc (Obj.cells #[x, y] T)).heap.size (w.alloc (Obj.cells #[x, y] T)) w1) :
    w1.cell? ⟨w.heap.size, 0, none⟩ = some x ∧ w1.cell? ⟨w.heap.size, 1, none⟩ = some y ∧ w.heap.size < w1.heap.size := by
  refine ⟨?_, ?_, ?_⟩
  · rw [hb.cell (p := ⟨w.heap.size, 0, none⟩) (by simp)]; simp
  · rw [hb.cell (p := ⟨w.heap.size, 1, none⟩) (by simp)]; simp
  · have := hb.size; simp at this; omega
theorem badE_pos (len : Nat) : 0 < badE len := by unfold badE; split <;> decide
theorem coded_bad (ad : Nat → Addr) (len : Nat) (W : World) (hW : Sents W ad) :
    Calls Tryd.prog 24 #[badV ad len, .int .i64 (badE len)] W fun e' w' => e' = .returned (.bool true) ∧ Below W.heap.size W w' := by
  unfold badV badA badE
  by_cases hl : 60 < len
  · rw [if_pos hl, if_pos hl]; exact coded1_err ad 1 2 (by decide) (by decide) W hW
  · rw [if_neg hl, if_neg hl]; exact coded1_err ad 3 4 (by decide) (by decide) W hW

/-- The program's instant and the reference's, of any table and stamp. -/
theorem inst_pair (ad : Nat → Addr) (D A : Nat → Int) (a : Option Addr) (len cap : Nat) (day micro : Int) : ∃ (x : Int) (ev : Value) (e : Int),
    (∀ W, Sents W ad → Tab W a len D A → Calls Tryd.prog 49 #[.slice a len cap, .agg #[.int .i64 day, .int .i64 micro]] W fun e' w' => e' = .returned (.tuple #[.int .i64 x, ev]) ∧ Below W.heap.size W w') ∧
    (∀ W, Tab W a len D A → Calls Tryd.prog 52 #[.slice a len cap, .agg #[.int .i64 day, .int .i64 micro]] W fun e' w' => e' = .returned (.tuple #[.int .i64 x, .int .i64 e]) ∧ Below W.heap.size W w') ∧
    (∀ W, Sents W ad → Calls Tryd.prog 24 #[ev, .int .i64 e] W fun e' w' => e' = .returned (.bool true) ∧ Below W.heap.size W w') := by
  by_cases g : goodT D A len
  · by_cases hi : instOk D A len day micro
    · refine ⟨instF D A len day micro, .nilIface, 0, fun W hW hT => instant_ok ad D A a len cap day micro W (hW.errs _ (by decide)) hT g hi, fun W hT => ?_, fun W _ => coded1_nil W⟩
      refine (instOf_good D A a len cap day micro W hT g).mono ?_
      rintro e w' ⟨⟨_, rfl⟩ | ⟨hn, _⟩, hb⟩
      · exact ⟨rfl, hb⟩
      · exact absurd hi hn
    · refine ⟨0, errV ad 2, 3, fun W hW hT => instant_no ad D A a len cap day micro W (hW.errs _ (by decide)) hT g hi, fun W hT => ?_, fun W hW => coded1_err ad 2 3 (by decide) (by decide) W hW⟩
      refine (instOf_good D A a len cap day micro W hT g).mono ?_
      rintro e w' ⟨⟨hn, _⟩ | ⟨_, rfl⟩, hb⟩
      · exact absurd hn hi
      · exact ⟨rfl, hb⟩
  · exact ⟨0, badV ad len, badE len, fun W hW hT => instant_bad ad D A a len cap day micro W (hW.errs _ (by decide)) hT g, fun W hT => instOf_bad D A a len cap day micro W hT g (badE_pos len), fun W hW => coded_bad ad len W hW⟩

end Go.Proofs.YtjdjncfpcbeedaaDoor
