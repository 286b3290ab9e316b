/- What the reference's IsTime answers. -/
import Derived.Test.YtjdjncfpcbeedaaDoorTab
namespace Go.Proofs.YtjdjncfpcbeedaaDoor
open Go.RowKit

theorem isTime_any (t : Int) (w : World) :
    Calls Tryd.prog 85 #[.int .i64 t] w fun e w' => e = .returned (.bool (goodB t)) ∧ w = w' := by
  by_cases h2 : -300000000000000000 ≤ t
  · by_cases h1 : t ≤ 300000000000000000
    · have e : goodB t = true := by unfold goodB; simp; omega
      rw [e]; clear e
      go_enter Tryd.func85, Tryd.ntmps85
      go_wp2
      go_ret
      exact ⟨rfl, rfl⟩
    · have e : goodB t = false := by unfold goodB; simp; omega
      rw [e]; clear e
      go_enter Tryd.func85, Tryd.ntmps85
      go_wp2
      go_ret
      exact ⟨rfl, rfl⟩
  · have e : goodB t = false := by unfold goodB; simp; omega
    rw [e]; clear e
    go_enter Tryd.func85, Tryd.ntmps85
    go_wp2
    go_ret
    exact ⟨rfl, rfl⟩
end Go.Proofs.YtjdjncfpcbeedaaDoor
