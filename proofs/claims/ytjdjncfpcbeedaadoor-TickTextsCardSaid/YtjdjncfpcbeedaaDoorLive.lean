/- The program tells stamps: what live answers. -/
import Derived.Test.YtjdjncfpcbeedaaDoorStamp
import Derived.Test.YtjdjncfpcbeedaaDoorTickP
import Derived.Test.YtjdjncfpcbeedaaDoorKnown
namespace Go.Proofs.YtjdjncfpcbeedaaDoor
open Go.RowKit

theorem known_good : goodT KD KA 28 := ⟨by decide, known_rows⟩
theorem known_m1 : startF KD KA 28 (-1) = -86368000000 := by decide +kernel
theorem known_0 : startF KD KA 28 0 = 32000000 := by decide +kernel
theorem live_plain {d : Int} (h1 : startF KD KA 28 d ≤ 0) (h2 : 0 < startF KD KA 28 (d + 1)) : d = -1 ∧ 0 - startF KD KA 28 d = 86368000000 := by
  have a := day_le known_rows (Int.le_refl 0) h1 (b := -1) (by rw [show (-1 : Int) + 1 = 0 by decide, known_0]; decide)
  have b := day_le known_rows (Int.le_refl 0) (a := -1) (by rw [known_m1]; decide) h2
  obtain rfl : d = -1 := by omega
  exact ⟨rfl, by rw [known_m1]; decide⟩

theorem live_any (ad : Nat → Addr) (w : World) (he : Errs w ad [1, 2, 3]) :
    Calls Tryd.prog 21 #[] w fun e w' => e = .returned (.bool true) ∧ Below w.heap.size w w' := by
  have HE := Lib.hid he
  clear he
  go_enter Tryd.func21, Tryd.ntmps21
  go_wp2_with fail
  refine (known_any _).mono ?_; rintro e w1 ⟨⟨b, cap, rfl, hT⟩, hb1⟩
  have S := stamped_ok ad KD KA (some ⟨b, 0, none⟩) 28 cap 0 w1 (HE.out.below hb1) hT known_good (by decide)
  have HS := Lib.hid S
  have HB := Lib.hid hb1
  clear S hb1 hT HE
  go_wp2_with fail
  refine HS.out.mono ?_; rintro e w2 ⟨⟨d, rfl, h1, h2, _, _⟩, hb2⟩
  obtain ⟨rfl, hm⟩ := live_plain h1 h2
  rw [hm]
  have HB2 := Lib.hid (below_step HB.out hb2)
  clear hb2 HB h1 h2 hm HS
  go_wp2
  go_ret
  exact ⟨rfl, HB2.out.alloc HB2.out.size _⟩
end Go.Proofs.YtjdjncfpcbeedaaDoor
