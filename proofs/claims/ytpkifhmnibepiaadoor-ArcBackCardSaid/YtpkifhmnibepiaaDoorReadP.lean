/- The state of a reading: the result's two variables, the runes, the scan. -/
import Derived.Test.YtpkifhmnibepiaaDoorCaught
import Derived.Test.YtpkifhmnibepiaaDoorRunesP
namespace Go.Proofs.YtpkifhmnibepiaaDoor
open Go.RowKit

structure RD (w : World) (N cap : Nat) (L : Nat → Int) (x : Int) (k : Nat) (W : World) : Prop where
  sc : Sc W (w.heap.size + 1 + 1 + 1) (w.heap.size + 1 + 1) N cap k W
  ok : ScOk W (w.heap.size + 1 + 1 + 1) (w.heap.size + 1 + 1) N L
  n : W.cell? ⟨w.heap.size, 0, none⟩ = some (.int .i64 x)
  nf : W.frozen? ⟨w.heap.size, 0, none⟩ = false
  e : W.cell? ⟨w.heap.size + 1, 0, none⟩ = some .nilIface
  ef : W.frozen? ⟨w.heap.size + 1, 0, none⟩ = false
  below : Below w.heap.size w W
theorem RD.step {w W W' : World} {N cap : Nat} {L : Nat → Int} {x : Int} {k k' : Nat} (h : RD w N cap L x k W) (hs : Sc W (w.heap.size + 1 + 1 + 1) (w.heap.size + 1 + 1) N cap k' W') : RD w N cap L x k' W' := by
  have hb := hs.1
  refine ⟨⟨Below.refl _ _, hs.2⟩, ⟨h.ok.1, h.ok.2.1, fun j hj => ?_⟩, ?_, ?_, ?_, ?_, h.below.trans (hb.mono (by omega))⟩
  · rw [hb.cell (p := ⟨w.heap.size + 1 + 1, j, none⟩) (by simp)]; exact h.ok.2.2 j hj
  · rw [hb.cell (p := ⟨w.heap.size, 0, none⟩) (by simp; omega)]; exact h.n
  · rw [hb.frozen (p := ⟨w.heap.size, 0, none⟩) (by simp; omega)]; exact h.nf
  · rw [hb.cell (p := ⟨w.heap.size + 1, 0, none⟩) (by simp)]; exact h.e
  · rw [hb.frozen (p := ⟨w.heap.size + 1, 0, none⟩) (by simp)]; exact h.ef
theorem RD.drewN {w W : World} {N cap : Nat} {L : Nat → Int} {x : Int} {k : Nat} (h : RD w N cap L x k W) (n : Nat) : RD w N cap L x k (W.drewN n) := h.step (h.sc.drewN n)
theorem RD.drew {w W : World} {N cap : Nat} {L : Nat → Int} {x : Int} {k : Nat} (h : RD w N cap L x k W) : RD w N cap L x k W.drew := by
  exact h.drewN 1
theorem RD.put {w W : World} {N cap : Nat} {L : Nat → Int} {x : Int} {k : Nat} (h : RD w N cap L x k W) (y : Int) : RD w N cap L y k (W.setCell ⟨w.heap.size, 0, none⟩ (.int .i64 y)) := by
  have h1 := h.sc.2
  refine ⟨⟨Below.refl _ _, ?_, ?_, ?_⟩, ⟨h.ok.1, h.ok.2.1, fun j hj => ?_⟩, ?_, ?_, ?_, ?_, h.below.setCell (by simp) _⟩
  · rw [World.cell?_setCell_other _ _ _ _ (by simp <;> omega)]; exact h1.1
  · rw [World.cell?_setCell_other _ _ _ _ (by simp <;> omega)]; exact h1.2.1
  · rw [World.frozen?_setCell]; exact h1.2.2
  · rw [World.cell?_setCell_other _ _ _ _ (by simp <;> omega)]; exact h.ok.2.2 j hj
  · exact World.cell?_setCell_same _ _ _ h.n
  · rw [World.frozen?_setCell]; exact h.nf
  · rw [World.cell?_setCell_other _ _ _ _ (by simp)]; exact h.e
  · rw [World.frozen?_setCell]; exact h.ef
theorem RD.start {w : World} {N cap : Nat} {L : Nat → Int} {X : Array Value} (hN : N ≤ 1000000) (hX : ∀ j, j < N → X[j]? = some (.int .i32 (L j))) :
    RD w N cap L 0 0 ((((w.alloc (.cells #[.int .i64 0] 3)).alloc (.cells #[.nilIface] 23)).alloc (.cells X 21)).alloc (.cells #[.slice (some ⟨w.heap.size + 1 + 1, 0, none⟩) N cap, .int .i64 0] 106)).drew := by
  refine RD.drew ⟨⟨Below.refl _ _, by go_simp, by go_simp, by go_simp⟩, ⟨by omega, hN, fun j hj => ?_⟩, by go_simp, by go_simp, by go_simp, by go_simp, ?_⟩
  · have := hX j hj; go_simp
  · exact ((((Below.refl _ _).alloc (Nat.le_refl _) _).alloc (by simp) _).alloc (by simp; omega) _).alloc (by simp; omega) _
/-- The world behind the deferred call of a reading that was wrong. -/
theorem RD.fault {w W : World} {N cap : Nat} {L : Nat → Int} {x : Int} {k : Nat} (h : RD w N cap L x k W) (k' : Nat) (ad : Addr) : ∃ WF : World,
    ((W.setCell ⟨w.heap.size, 0, none⟩ (.int .i64 0)).setCell ⟨w.heap.size + 1, 0, none⟩ (.iface 125 (.pointer (some ⟨W.heap.size, 0, none⟩)))).alloc (.cells #[.int .i64 k', .iface 258 (.pointer (some ad))] 127) = WF ∧
    WF.cell? ⟨w.heap.size, 0, none⟩ = some (.int .i64 0) ∧ WF.cell? ⟨w.heap.size + 1, 0, none⟩ = some (.iface 125 (.pointer (some ⟨W.heap.size, 0, none⟩))) ∧ WF.cell? ⟨W.heap.size, 0, none⟩ = some (.int .i64 k') ∧
    WF.cell? ⟨W.heap.size, 1, none⟩ = some (.iface 258 (.pointer (some ad))) ∧ w.heap.size ≤ W.heap.size ∧ Below w.heap.size w WF := by
  have h1 := cell_lt h.n
  have h2 := cell_lt h.e
  have e1 := h.n
  have e2 := h.e
  refine ⟨_, rfl, ?_, ?_, ?_, ?_, by omega, ?_⟩
  · rw [World.cell?_alloc_old _ _ _ (by simp; omega), World.cell?_setCell_other _ _ _ _ (by simp), World.cell?_setCell_same _ _ _ e1]
  · rw [World.cell?_alloc_old _ _ _ (by simp; omega), World.cell?_setCell_same _ _ _ (by rw [World.cell?_setCell_other _ _ _ _ (by simp)]; exact e2)]
  · have hs : ((W.setCell ⟨w.heap.size, 0, none⟩ (.int .i64 0)).setCell ⟨w.heap.size + 1, 0, none⟩ (.iface 125 (.pointer (some ⟨W.heap.size, 0, none⟩)))).heap.size = W.heap.size := by simp
    generalize (W.setCell ⟨w.heap.size, 0, none⟩ (.int .i64 0)).setCell ⟨w.heap.size + 1, 0, none⟩ (.iface 125 (.pointer (some ⟨W.heap.size, 0, none⟩))) = W2 at hs ⊢
    rw [← hs]; simp
  · have hs : ((W.setCell ⟨w.heap.size, 0, none⟩ (.int .i64 0)).setCell ⟨w.heap.size + 1, 0, none⟩ (.iface 125 (.pointer (some ⟨W.heap.size, 0, none⟩)))).heap.size = W.heap.size := by simp
    generalize (W.setCell ⟨w.heap.size, 0, none⟩ (.int .i64 0)).setCell ⟨w.heap.size + 1, 0, none⟩ (.iface 125 (.pointer (some ⟨W.heap.size, 0, none⟩))) = W2 at hs ⊢
    rw [← hs]; simp
  · exact ((h.below.setCell (by simp) _).setCell (by simp) _).alloc (by simp; omega) _
/-- The world at the end of a reading that was right. -/
theorem RD.fine {w W : World} {N cap : Nat} {L : Nat → Int} {x : Int} {k : Nat} (h : RD w N cap L x k W) (v : Int) : ∃ WF : World,
    (W.setCell ⟨w.heap.size, 0, none⟩ (.int .i64 v)).setCell ⟨w.heap.size + 1, 0, none⟩ .nilIface = WF ∧
    WF.cell? ⟨w.heap.size, 0, none⟩ = some (.int .i64 v) ∧ WF.cell? ⟨w.heap.size + 1, 0, none⟩ = some .nilIface ∧ Below w.heap.size w WF := by
  have e1 := h.n
  have e2 := h.e
  refine ⟨_, rfl, ?_, ?_, ?_⟩
  · rw [World.cell?_setCell_other _ _ _ _ (by simp), World.cell?_setCell_same _ _ _ e1]
  · rw [World.cell?_setCell_same _ _ _ (by rw [World.cell?_setCell_other _ _ _ _ (by simp)]; exact e2)]
  · exact ((h.below.setCell (by simp) _).setCell (by simp) _)
theorem RD.fine2 {w W : World} {N cap : Nat} {L : Nat → Int} {x : Int} {k : Nat} (h : RD w N cap L x k W) (v : Int) : ∃ WF : World,
    ((W.setCell ⟨w.heap.size, 0, none⟩ (.int .i64 v)).setCell ⟨w.heap.size, 0, none⟩ (.int .i64 v)).setCell ⟨w.heap.size + 1, 0, none⟩ .nilIface = WF ∧
    WF.cell? ⟨w.heap.size, 0, none⟩ = some (.int .i64 v) ∧ WF.cell? ⟨w.heap.size + 1, 0, none⟩ = some .nilIface ∧ Below w.heap.size w WF := (h.put v).fine v
/-- What comes of a reading. -/
def ReadP (w : World) (ad : Addr) (o : Out) (e : Ending) (w' : World) : Prop :=
  match o with
  | .ok n _ => e = .returned (.tuple #[.int .i64 n, .nilIface]) ∧ Below w.heap.size w w'
  | .bad k => ∃ f, w.heap.size ≤ f ∧ e = .returned (.tuple #[.int .i64 0, .iface 125 (.pointer (some ⟨f, 0, none⟩))]) ∧ w'.cell? ⟨f, 0, none⟩ = some (.int .i64 k) ∧ w'.cell? ⟨f, 1, none⟩ = some (.iface 258 (.pointer (some ad))) ∧ Below w.heap.size w w'
end Go.Proofs.YtpkifhmnibepiaaDoor
