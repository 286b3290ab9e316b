/- The law LightPowers, whole. -/
import Derived.Test.YtbafddlkeocpeaaGreatDoorPwM
import Derived.Test.YtbafddlkeocpeaaGreatDoorPwN
namespace Go.Proofs.YtbafddlkeocpeaaGreatDoor
open Go.RowKit Ieee

theorem lightPowers_any (ad : Nat → Addr) {w : World} (f : Nat → Int) (at' : Option Addr) (n ct : Nat) (hT : IRow w at' n f) (l : Nat → Nat) (al : Option Addr) (m cl : Nat) (hL : FRow w al m l) (step : Int) (_h2 : In64 step) (frm : Int) (_h3 : In64 frm) (many : Int) (_h4 : In64 many) (hE : Sents w ad) :
    Calls Tryz.prog 3 #[.slice at' n ct, .slice al m cl, .int .i64 step, .int .i64 frm, .int .i64 many] w fun e w' => e = .returned (.bool true) ∧ Below w.heap.size w w' := by
  by_cases hs : Skips n m many
  · exact law_skips n m many step frm at' al ct cl hs w
  · have hs' := hs
    unfold Skips at hs'
    by_cases hsh : Shaped n m
    · refine law_err f n m many step frm at' al ct cl hs 4 5 (Or.inl ⟨hsh, rfl, rfl⟩) ad w hE hT (fun W hb => ?_)
      exact power_shape n m many step frm at' al ct cl (by omega) (by omega) hsh ad W ((hE.below hb).errs _ (by decide))
    · by_cases hB : Beyond f n many step frm
      · refine law_err f n m many step frm at' al ct cl hs 1 2 (Or.inr ⟨hsh, hB, rfl, rfl⟩) ad w hE hT (fun W hb => ?_)
        unfold Shaped at hsh
        obtain rfl : n = m := by omega
        exact power_bound f n many step frm at' al ct cl (by omega) (by omega) hB ad W ((hE.below hb).errs _ (by decide)) (hT.below hb)
      · unfold Shaped at hsh
        obtain rfl : n = m := by omega
        have hB' := hB
        unfold Beyond at hB'
        have b1 : ¬ 4000 < n := fun h => hB' (Or.inl h)
        have b2 : ¬ many < 1 := fun h => hB' (Or.inr (Or.inl h))
        have b3 : ¬ 4000 < many := fun h => hB' (Or.inr (Or.inr (Or.inl h)))
        have b4 : ¬ Far step := fun h => hB' (Or.inr (Or.inr (Or.inr (Or.inl h))))
        have b5 : ¬ Far frm := fun h => hB' (Or.inr (Or.inr (Or.inr (Or.inr (Or.inl h)))))
        have b6 : ∀ j, j < n → ¬ Far (f j) := fun j hj h => hB' (Or.inr (Or.inr (Or.inr (Or.inr (Or.inr ⟨j, hj, h⟩)))))
        obtain ⟨K, rfl⟩ := Int.eq_ofNat_of_zero_le (by omega : 0 ≤ many)
        exact law_ok f l n K step frm at' al ct cl (by omega) (by omega) (by omega) (by omega) b4 b5 b6 w hT hL
end Go.Proofs.YtbafddlkeocpeaaGreatDoor
