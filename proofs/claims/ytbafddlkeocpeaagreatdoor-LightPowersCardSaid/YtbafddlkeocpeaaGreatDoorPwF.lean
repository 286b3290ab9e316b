/- Which numbers are far; whether a list has a far one. -/
import Derived.Test.YtbafddlkeocpeaaGreatDoorPwA
namespace Go.Proofs.YtbafddlkeocpeaaGreatDoor
open Go.RowKit

def Far (t : Int) : Prop := 1099511627776 < t ∨ t < -1099511627776

theorem far_yes (t : Int) (h : Far t) (w : World) : Calls Tryz.prog 10 #[.int .i64 t] w fun e w' => e = .returned (.bool true) ∧ w' = w := by
  unfold Far at h
  by_cases h1 : 1099511627776 < t
  · have d : decide (t > 1099511627776) = true := by simpa using h1
    clear h
    go_enter Tryz.func10, Tryz.ntmps10
    go_wp2
    go_ret
    exact ⟨rfl, rfl⟩
  · have h2 : t < -1099511627776 := by omega
    clear h
    go_enter Tryz.func10, Tryz.ntmps10
    go_wp2
    go_ret
    exact ⟨rfl, rfl⟩
theorem far_no (t : Int) (h : ¬ Far t) (w : World) : Calls Tryz.prog 10 #[.int .i64 t] w fun e w' => e = .returned (.bool false) ∧ w' = w := by
  have h1 : ¬ 1099511627776 < t := fun k => h (Or.inl k)
  have h2 : ¬ t < -1099511627776 := fun k => h (Or.inr k)
  clear h
  go_enter Tryz.func10, Tryz.ntmps10
  go_wp2
  go_ret
  exact ⟨rfl, rfl⟩
theorem large_yes (t : Int) (h : Far t) (w : World) : Calls Tryz.prog 5 #[.int .i64 t] w fun e w' => e = .returned (.bool true) ∧ w' = w := by
  unfold Far at h
  by_cases h1 : 1099511627776 < t
  · have d : decide (t > 1099511627776) = true := by simpa using h1
    clear h
    go_enter Tryz.func5, Tryz.ntmps5
    go_wp2
    go_ret
    exact ⟨rfl, rfl⟩
  · have h2 : t < -1099511627776 := by omega
    clear h
    go_enter Tryz.func5, Tryz.ntmps5
    go_wp2
    go_ret
    exact ⟨rfl, rfl⟩
theorem large_no (t : Int) (h : ¬ Far t) (w : World) : Calls Tryz.prog 5 #[.int .i64 t] w fun e w' => e = .returned (.bool false) ∧ w' = w := by
  have h1 : ¬ 1099511627776 < t := fun k => h (Or.inl k)
  have h2 : ¬ t < -1099511627776 := fun k => h (Or.inr k)
  clear h
  go_enter Tryz.func5, Tryz.ntmps5
  go_wp2
  go_ret
  exact ⟨rfl, rfl⟩
set_option maxRecDepth 10000 in
theorem index_far (f : Nat → Int) (n : Nat) (a : Option Addr) (cap : Nat) (hn : n ≤ 1000000) (w : World) (h : IRow w a n f) :
    Calls Tryz.prog 20 #[.slice a n cap, .func (.func 10) #[] #[]] w fun e w' => (∃ r : Int, e = .returned (.int .i64 r) ∧ -1 ≤ r ∧ r ≤ n ∧ (0 ≤ r ↔ ∃ i, i < n ∧ Far (f i))) ∧ w' = w := by
  have HA := Lib.hid (fun i (hi : i < n) => h.at hi)
  have HY := Lib.hid (fun t h W => far_yes t h W)
  have HN := Lib.hid (fun t h W => far_no t h W)
  clear h
  go_enter Tryz.func20, Tryz.ntmps20
  go_wp2
  go_loopw [8] (fun i wr => ∃ k : Nat, k ≤ n ∧ i = .int .i64 k ∧ Hid (∀ j, j < k → ¬ Far (f j)) ∧ wr = w) (fun i _ => n - (intOf i).toNat)
  case atStart => exact ⟨0, Nat.zero_le _, rfl, Lib.hid (fun j hj => absurd hj (Nat.not_lt_zero _)), rfl⟩
  case round =>
    obtain ⟨k, hk, rfl, hN, rfl⟩ := hrel
    by_cases hlt : k < n
    · obtain ⟨b, o, rfl, _, c1⟩ := HA.out k hlt
      by_cases hf : Far (f k)
      · have HF := Lib.hid (HY.out (f k) hf)
        have HK := Lib.hid hf
        clear hf
        go_wp2_with fail
        refine (HF.out _).mono ?_; rintro e w1 ⟨rfl, rfl⟩
        go_wp2
        go_ret
        exact ⟨⟨(k : Int), rfl, by omega, by omega, ⟨fun _ => ⟨k, hlt, HK.out⟩, fun _ => by omega⟩⟩, rfl⟩
      · have HF := Lib.hid (HN.out (f k) hf)
        have HN2 : Hid (∀ j, j < k + 1 → ¬ Far (f j)) := Lib.hid (fun j hj => by
          by_cases e : j = k
          · rw [e]; exact hf
          · exact hN.out j (by omega))
        clear hf hN
        go_wp2_with fail
        refine (HF.out _).mono ?_; rintro e w1 ⟨rfl, rfl⟩
        go_wp2
        go_roundw
        case rel => exact ⟨k + 1, by omega, by go_num, HN2, by simp⟩
        case measure => simp [intOf]; omega
    · obtain rfl : k = n := by omega
      go_wp2
      go_ret
      exact ⟨⟨-1, rfl, by omega, by omega, ⟨fun h => by omega, fun ⟨i, hi, hp⟩ => absurd hp (hN.out i hi)⟩⟩, rfl⟩
theorem contains_far (f : Nat → Int) (n : Nat) (a : Option Addr) (cap : Nat) (hn : n ≤ 1000000) (w : World) (h : IRow w a n f) (b : Bool) (hb : b = true ↔ ∃ i, i < n ∧ Far (f i)) :
    Calls Tryz.prog 11 #[.slice a n cap, .func (.func 10) #[] #[]] w fun e w' => e = .returned (.bool b) ∧ w' = w := by
  have HI := Lib.hid (index_far f n a cap hn w h)
  have HB := Lib.hid hb
  clear h hb
  go_enter Tryz.func11, Tryz.ntmps11
  go_wp2_with fail
  refine HI.out.mono ?_; rintro e w1 ⟨⟨r, rfl, hr, hr2, hi⟩, rfl⟩
  have hbr : b = decide (0 ≤ r) := by
    by_cases c : 0 ≤ r
    · rw [HB.out.2 (hi.1 c), decide_eq_true c]
    · rw [decide_eq_false c]
      cases hbb : b with
      | false => rfl
      | true => exact absurd (hi.2 (HB.out.1 hbb)) c
  by_cases c : 0 ≤ r
  · have d : decide (0 ≤ r) = true := decide_eq_true c
    rw [d] at hbr
    subst hbr
    clear hi HI HB
    go_wp2
    go_ret
    exact ⟨rfl, rfl⟩
  · have d : decide (0 ≤ r) = false := decide_eq_false c
    rw [d] at hbr
    subst hbr
    clear hi HI HB
    go_wp2
    go_ret
    exact ⟨rfl, rfl⟩
end Go.Proofs.YtbafddlkeocpeaaGreatDoor
