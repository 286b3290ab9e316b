/- A byte of a text. -/
import Derived.Test.YtjdjncfpcbeedaaDoorTxtP
namespace Go.Proofs.YtjdjncfpcbeedaaDoor
open Go.RowKit

def bt (s : ByteArray) (i : Nat) : Nat := (s.get! i).toNat
theorem bt_in {s : ByteArray} {i : Nat} (h : i < s.size) : bt s i = s[i].toNat := by
  unfold bt
  simp [ByteArray.get!, h]
  rfl
theorem ret_int {k : IntKind} {a b : Int} (h : a = b) : Ending.returned (.int k a) = .returned (.int k b) := by rw [h]
end Go.Proofs.YtjdjncfpcbeedaaDoor
