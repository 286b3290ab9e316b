/- What the model knows of the type []int as an element. -/
import Derived.Test.YthbekddpnkammaaGreatDoorGrdS
namespace Go.Proofs.YthbekddpnkammaaGreatDoor
open Go.RowKit

theorem info_sl : (Tryz.prog.info? 29).map (fun i => (i.zero, i.size, i.bytes)) = some (some (.slice none 0 0), 1, 24) := by kernel_rfl
end Go.Proofs.YthbekddpnkammaaGreatDoor
