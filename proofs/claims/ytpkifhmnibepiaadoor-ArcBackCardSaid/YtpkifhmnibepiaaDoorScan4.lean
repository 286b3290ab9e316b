/- The scan of an angle's text: sixty, rest. -/
import Derived.Test.YtpkifhmnibepiaaDoorScan3
namespace Go.Proofs.YtpkifhmnibepiaaDoor
open Go.RowKit

theorem numO_inv {s : Nat → Int} {l m a : Nat} {n : Int} {k : Nat} (h : numO s l m a = .ok n k) : ∃ c, c ≤ m ∧ k = a + c ∧ 0 ≤ n ∧ n < 10 ^ c := by
  unfold numO at h
  split at h
  · cases h
  · injection h with h1 h2
    have := numV_bd s a (cnt s m a) (fun j hj => cnt_digit s m a j hj)
    exact ⟨cnt s m a, cnt_le s m a, h2.symm, by omega, by rw [← h1]; exact this.2⟩
theorem sixtyO_inv {s : Nat → Int} {a : Nat} {n : Int} {k : Nat} (h : sixtyO s a = .ok n k) : 0 ≤ n ∧ n ≤ 59 ∧ numO s 2 2 a = .ok n k := by
  unfold sixtyO at h
  split at h
  · cases h
  · rename_i n' k' hn
    split at h
    · cases h
    · injection h with h1 h2
      subst h1 h2
      obtain ⟨c, _, _, h0, _⟩ := numO_inv hn
      exact ⟨h0, by omega, hn⟩

theorem pow_bd (p : Int) (c j : Nat) (h0 : 0 ≤ p) (h1 : p < 10 ^ c) (h : j + c ≤ 6) : 0 ≤ p * 10 ^ j ∧ p * 10 ^ j < 1000000 := by
  have hj : (0 : Int) < 10 ^ j := Int.pow_pos (by decide)
  have h2 := Int.mul_lt_mul_of_pos_right h1 hj
  have h3 := pow10_le (c + j) (by omega)
  rw [Int.pow_add] at h3
  exact ⟨Int.mul_nonneg h0 (Int.le_of_lt hj), by omega⟩

theorem endO_inv {s : Nat → Int} {N : Nat} {sc m n : Int} {a k : Nat} (h : endO s N sc m a = .ok n k) : n = m := by
  unfold endO at h
  split at h
  · split at h
    · cases h
    · injection h with h1 h2; exact h1.symm
  · cases h
theorem partO_bd {s : Nat → Int} {a k : Nat} {n : Int} (h : partO s a = .ok n k) : 0 ≤ n ∧ n < 1000000 := by
  unfold partO at h
  split at h
  · cases h
  · rename_i p k' hp
    injection h with h1 h2
    obtain ⟨c, hc, hk, p0, p1⟩ := numO_inv hp
    rw [show k' - a = c by omega] at h1
    rw [← h1]
    exact pow_bd p c (6 - c) p0 p1 (by omega)
theorem restO_bd {s : Nat → Int} {N : Nat} {mn sc n : Int} {a k : Nat} (h : restO s N mn sc a = .ok n k) : 0 ≤ n ∧ n < 3600000000 := by
  unfold restO at h
  split at h
  · injection h with h1 h2; omega
  · split at h
    · cases h
    · rename_i m k1 h1
      have b1 := sixtyO_inv h1
      split at h
      · split at h
        · injection h with h1 h2; omega
        · unfold secO at h
          split at h
          · cases h
          · rename_i m2 k2 h2
            have b2 := sixtyO_inv h2
            split at h
            · split at h
              · cases h
              · rename_i p k3 h3
                have b3 := partO_bd h3
                have := endO_inv h
                omega
            · have := endO_inv h
              omega
      · cases h
section
variable {w0 : World} {sb r N cap : Nat} {L : Nat → Int}
set_option maxHeartbeats 2000000 in
theorem sixty_any (ho : ScOk w0 sb r N L) (k : Nat) (w : World) (h : Sc w0 sb r N cap k w) :
    Calls Tryd.prog 113 #[.pointer (some ⟨sb, 0, none⟩)] w (OutP w0 sb r N cap (sixtyO (seeF N L) k)) := by
  have HN := Lib.hid (fun w h => number_any (cap := cap) ho 2 2 k (by omega) (by omega) w h)
  have HW := Lib.hid (fun q w h => wrong_any (w0 := w0) (sb := sb) (r := r) (N := N) (cap := cap) q w h)
  have H := Lib.hid h
  obtain ⟨_, h1, h2, h4⟩ := h
  cases hn : numO (seeF N L) 2 2 k with
  | bad j =>
    rw [hn] at HN
    rw [show sixtyO (seeF N L) k = .bad j by unfold sixtyO; rw [hn]]
    clear hn ho
    go_enter Tryd.func113, Tryd.ntmps113
    go_wp2_with fail
    refine (HN.out _ H.out).mono ?_; rintro e w1 ⟨rfl, hr1⟩
    have HR1 := Lib.hid hr1
    clear hr1
    go_wp2
    exact ⟨rfl, rfl, HR1.out⟩
  | ok n j =>
    rw [hn] at HN
    have e1 : 59 < n → sixtyO (seeF N L) k = .bad k := fun c => by unfold sixtyO; rw [hn]; exact if_pos c
    have e2 : ¬ 59 < n → sixtyO (seeF N L) k = .ok n j := fun c => by unfold sixtyO; rw [hn]; exact if_neg c
    obtain ⟨c, hc, _, hn0, hn1⟩ := numO_inv hn
    have hp := pow10_le c (by omega)
    have hn2 : n < 1000000 := by omega
    clear hn ho hn1 hp
    by_cases c59 : 59 < n
    · rw [e1 c59]
      clear e1 e2
      go_enter Tryd.func113, Tryd.ntmps113
      go_wp2_with fail
      refine (HN.out _ H.out).mono ?_; rintro e w1 ⟨rfl, hr1⟩
      have HR1 := Lib.hid hr1
      obtain ⟨_, h1, h2, h4⟩ := hr1
      clear HN
      go_wp2_with fail
      refine (HW.out _ _ (HR1.out.put k)).mono ?_; rintro e w2 ⟨rfl, hr2⟩
      have HR2 := Lib.hid hr2
      clear hr2
      go_wp2
      exact ⟨rfl, rfl, HR2.out⟩
    · rw [e2 c59]
      clear e1 e2
      go_enter Tryd.func113, Tryd.ntmps113
      go_wp2_with fail
      refine (HN.out _ H.out).mono ?_; rintro e w1 ⟨rfl, hr1⟩
      go_wp2
      go_ret
      exact ⟨rfl, hr1⟩
end
end Go.Proofs.YtpkifhmnibepiaaDoor
