/- The least label around a pixel: what the reference's leastAround computes. -/
import Derived.Test.YthbekddpnkammaaDoorLabel
namespace Go.Proofs.YthbekddpnkammaaDoor
open Go.RowKit

/-- What the search has found, rows up to d and columns up to e being looked at. -/
def leastP (M : Nat → Nat) (wide n i : Nat) (d e : Nat) (b : Nat) : Prop :=
  (b = M i ∨ ∃ j, Adj wide n i j ∧ 0 < M j ∧ b = M j) ∧ b ≤ M i ∧
  ∀ d' e', (d' < d ∨ (d' = d ∧ e' < e)) → d' < 3 → e' < 3 → ∀ m : Nat, m < n → 0 ≤ ((i % wide : Nat) : Int) + ((e' : Int) - 1) → ((i % wide : Nat) : Int) + ((e' : Int) - 1) < wide → (m : Int) = nbAt i wide d' e' → 0 < M m → b ≤ M m
section
variable {M : Nat → Nat} {wide n i d e b : Nat}
theorem leastP.zero (M : Nat → Nat) (wide n i : Nat) : leastP M wide n i 0 0 (M i) := ⟨Or.inl rfl, Nat.le_refl _, fun d' e' h => by omega⟩
theorem leastP.row (h : leastP M wide n i d 3 b) : leastP M wide n i (d + 1) 0 b :=
  ⟨h.1, h.2.1, fun d' e' hd h1 h2 => h.2.2 d' e' (by omega) h1 h2⟩
theorem leastP.out (h : leastP M wide n i d e b) (ho : ∀ m : Nat, m < n → 0 ≤ ((i % wide : Nat) : Int) + ((e : Int) - 1) → ((i % wide : Nat) : Int) + ((e : Int) - 1) < wide → (m : Int) = nbAt i wide d e → 0 < M m → b ≤ M m) : leastP M wide n i d (e + 1) b := by
  refine ⟨h.1, h.2.1, fun d' e' hd h1 h2 m hm => ?_⟩
  by_cases c : d' = d ∧ e' = e
  · obtain ⟨rfl, rfl⟩ := c
    exact ho m hm
  · exact h.2.2 d' e' (by omega) h1 h2 m hm
theorem leastP.in (h : leastP M wide n i d e b) {m : Nat} (hi : i < n) (hm : m < n) (hd : d < 3) (he : e < 3) (h1 : 0 ≤ ((i % wide : Nat) : Int) + ((e : Int) - 1)) (h2 : ((i % wide : Nat) : Int) + ((e : Int) - 1) < wide) (h3 : (m : Int) = nbAt i wide d e) (h4 : 0 < M m) (h5 : M m < b) : leastP M wide n i d (e + 1) (M m) := by
  refine ⟨Or.inr ⟨m, ⟨hi, hm, fun e => ?_, (d : Int) - 1, (e : Int) - 1, by omega, by omega, by omega, by omega, h3, h1, h2⟩, h4, rfl⟩, ?_, fun d' e' hd' g1 g2 m' hm' a1 a2 a3 a4 => ?_⟩
  · rw [e] at h5; have := h.2.1; omega
  · have := h.2.1; omega
  · by_cases c : d' = d ∧ e' = e
    · obtain ⟨rfl, rfl⟩ := c
      have : m = m' := by omega
      rw [this]; exact Nat.le_refl _
    · have := h.2.2 d' e' (by omega) g1 g2 m' hm' a1 a2 a3 a4
      omega
theorem leastP.all (h : leastP M wide n i 3 0 b) {j : Nat} (ha : Adj wide n i j) (hj : 0 < M j) : b ≤ M j := by
  obtain ⟨_, h2, _, dy, dx, a1, a2, b1, b2, e, c1, c2⟩ := ha
  refine h.2.2 (dy + 1).toNat (dx + 1).toNat (by omega) (by omega) (by omega) j h2 (by omega) (by omega) ?_ hj
  unfold nbAt
  rw [show (((dy + 1).toNat : Nat) : Int) - 1 = dy by omega, show (((dx + 1).toNat : Nat) : Int) - 1 = dx by omega]; exact e
end

set_option maxRecDepth 10000 in
set_option maxHeartbeats 4000000 in
theorem least_any (M : Nat → Nat) (wide n i B : Nat) (hw : 0 < wide) (hi : i < n) (hn : n ≤ 65536) (hwn : wide ≤ 65536) (w : World) (hC : OutC w B n M) (hMb : ∀ j, j < n → M j ≤ 65536) :
    Calls Tryd.prog 42 #[.slice (some ⟨B, 0, none⟩) n n, .int .i64 i, .int .i64 wide] w fun e w' => (∃ b : Nat, e = .returned (.int .i64 b) ∧ leastP M wide n i 3 0 b) ∧ w = w' := by
  have HC := Lib.hid hC
  have HMB := Lib.hid hMb
  have c0 := (hC i hi).1
  have hx : 0 ≤ (i : Int) % wide ∧ (i : Int) % wide < wide := ⟨Int.emod_nonneg _ (by omega), Int.emod_lt_of_pos _ (by omega)⟩
  have hw0 : ((wide : Int) == 0) = false := by simp; omega
  have EX := Lib.hid (show ((i % wide : Nat) : Int) = (i : Int) % wide from Int.natCast_emod ..)
  have hpr : ∀ d : Nat, d < 3 → -65536 ≤ ((d : Int) - 1) * wide ∧ ((d : Int) - 1) * wide ≤ 65536 := by
    intro d hd
    have : d = 0 ∨ d = 1 ∨ d = 2 := by omega
    rcases this with rfl | rfl | rfl <;> omega
  have HPR := Lib.hid hpr
  clear hC hMb hpr
  go_enter Tryd.func42, Tryd.ntmps42
  go_wp2
  clear c0
  generalize (i : Int) % wide = x at *
  go_loopw [7, 9] (fun v t wr => ∃ d b : Nat, d ≤ 3 ∧ t = .int .i64 ((d : Int) - 1) ∧ v = .int .i64 b ∧ Hid (leastP M wide n i d 0 b) ∧ w = wr) (fun _ t _ => (2 - intOf t).toNat)
  case atStart => exact ⟨0, M i, by decide, rfl, rfl, leastP.zero M wide n i, rfl⟩
  case round =>
    obtain ⟨d, b, hd, rfl, rfl, hP, rfl⟩ := hrel
    by_cases hd3 : d < 3
    · have hp := HPR.out d hd3
      have hdd : decide ((d : Int) - 1 ≤ 1) = true := by simp; omega
      go_wp2
      go_loopw [7, 10] (fun v t wr => ∃ e b : Nat, e ≤ 3 ∧ t = .int .i64 ((e : Int) - 1) ∧ v = .int .i64 b ∧ Hid (leastP M wide n i d e b) ∧ w = wr) (fun _ t _ => (2 - intOf t).toNat)
      case atStart => exact ⟨0, b, by decide, rfl, rfl, hP, rfl⟩
      case round =>
        clear hP
        obtain ⟨e, b, he, rfl, rfl, hP, rfl⟩ := hrel
        by_cases he3 : e < 3
        · have hee : decide ((e : Int) - 1 ≤ 1) = true := by simp; omega
          have hat : nbAt i wide d e = (i : Int) + ((d : Int) - 1) * wide + ((e : Int) - 1) := rfl
          by_cases o1 : x + ((e : Int) - 1) < 0
          · have R := Lib.hid (hP.out.out (fun m hm h1 => by have := EX.out; omega))
            clear hP hat
            go_wp2
            go_roundw
            case rel => exact ⟨e + 1, b, by omega, by go_num, rfl, R, by simp⟩
            case measure => simp [intOf]; omega
          by_cases o2 : (wide : Int) ≤ x + ((e : Int) - 1)
          · have R := Lib.hid (hP.out.out (fun m hm h1 h2 => by have := EX.out; omega))
            clear hP hat
            go_wp2
            go_roundw
            case rel => exact ⟨e + 1, b, by omega, by go_num, rfl, R, by simp⟩
            case measure => simp [intOf]; omega
          by_cases o3 : (i : Int) + ((d : Int) - 1) * wide + ((e : Int) - 1) < 0
          · have R := Lib.hid (hP.out.out (fun m hm h1 h2 h3 => by rw [hat] at h3; omega))
            clear hP hat
            go_wp2
            go_roundw
            case rel => exact ⟨e + 1, b, by omega, by go_num, rfl, R, by simp⟩
            case measure => simp [intOf]; omega
          by_cases o4 : (n : Int) ≤ (i : Int) + ((d : Int) - 1) * wide + ((e : Int) - 1)
          · have R := Lib.hid (hP.out.out (fun m hm h1 h2 h3 => by rw [hat] at h3; omega))
            clear hP hat
            go_wp2
            go_roundw
            case rel => exact ⟨e + 1, b, by omega, by go_num, rfl, R, by simp⟩
            case measure => simp [intOf]; omega
          · obtain ⟨m, hm⟩ : ∃ m : Nat, (i : Int) + ((d : Int) - 1) * wide + ((e : Int) - 1) = m := ⟨((i : Int) + ((d : Int) - 1) * wide + ((e : Int) - 1)).toNat, by omega⟩
            have hmn : m < n := by omega
            have hmb := HMB.out m hmn
            have c1 := (HC.out m hmn).1
            by_cases q : 0 < M m ∧ M m < b
            · obtain ⟨q1, q2⟩ := q
              have R := Lib.hid (hP.out.in hi hmn hd3 he3 (by have := EX.out; omega) (by have := EX.out; omega) (by rw [hat]; omega) q1 q2)
              clear hP hat o3 o4
              go_wp2
              go_roundw
              case rel => exact ⟨e + 1, M m, by omega, by go_num, rfl, R, by simp⟩
              case measure => simp [intOf]; omega
            · have R := Lib.hid (hP.out.out (fun m' hm' h1 h2 h3 h4 => by
                rw [hat] at h3
                have : m' = m := by omega
                subst this
                omega))
              clear hP hat o3 o4
              by_cases q1 : 0 < M m
              · have q2 : b ≤ M m := by omega
                clear q
                go_wp2
                go_roundw
                case rel => exact ⟨e + 1, b, by omega, by go_num, rfl, R, by simp⟩
                case measure => simp [intOf]; omega
              · have q1' : M m = 0 := by omega
                rw [q1'] at c1
                clear q q1 q1'
                go_wp2
                go_roundw
                case rel => exact ⟨e + 1, b, by omega, by go_num, rfl, R, by simp⟩
                case measure => simp [intOf]; omega
        · obtain rfl : e = 3 := by omega
          have R := Lib.hid hP.out.row
          clear hP
          go_wp2
          go_roundw
          case rel => exact ⟨d + 1, b, by omega, by go_num, rfl, R, by simp⟩
          case measure => simp [intOf]; omega
    · obtain rfl : d = 3 := by omega
      go_wp2
      go_ret
      exact ⟨⟨b, rfl, hP.out⟩, rfl⟩
end Go.Proofs.YthbekddpnkammaaDoor
