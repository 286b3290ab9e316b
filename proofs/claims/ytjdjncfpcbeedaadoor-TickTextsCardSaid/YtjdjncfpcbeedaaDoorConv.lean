/- A byte as a string (XDecimal's first part). -/
import Derived.Test.YtjdjncfpcbeedaaDoorTxtP
import Derived.Deep.RegionWith
namespace Go.Proofs.YtjdjncfpcbeedaaDoor
open Go.RowKit

/-- A string of one byte that a new cell holds. -/
theorem conv_cell (W : World) (b : Nat) (y : Int) (h0 : 0 ≤ y) (h1 : y < 256) (hc : W.cell? ⟨b, 0, none⟩ = some (.int .u8 y)) :
    (convert 138 9 (.slice (some ⟨b, 0, none⟩) 1 1)).run Tryd.prog W = .ok (.string (bs [UInt8.ofNat y.toNat])) W := by
  refine run_convert_bytes_back (P := Tryd.prog) W 138 9 5 ⟨b, 0, none⟩ 1 [UInt8.ofNat y.toNat] Tryd.underlying138 Tryd.underlying5 Tryd.underlying9 (fun j hj => ?_)
  obtain rfl : j = 0 := by simp at hj; exact hj
  have e : ((UInt8.ofNat y.toNat).toNat : Int) = y := by
    rw [UInt8.toNat_ofNat']; omega
  simp only [List.getElem_cons_zero, e]
  exact hc

theorem bcell {W w1 : World} (hb : Below W.heap.size W w1) : (∀ b o, b < W.heap.size → w1.cell? ⟨b, o, none⟩ = W.cell? ⟨b, o, none⟩) ∧ (∀ b o, b < W.heap.size → w1.frozen? ⟨b, o, none⟩ = W.frozen? ⟨b, o, none⟩) :=
  ⟨fun b o h => hb.cell (p := ⟨b, o, none⟩) h, fun b o h => hb.frozen (p := ⟨b, o, none⟩) h⟩
end Go.Proofs.YtjdjncfpcbeedaaDoor
