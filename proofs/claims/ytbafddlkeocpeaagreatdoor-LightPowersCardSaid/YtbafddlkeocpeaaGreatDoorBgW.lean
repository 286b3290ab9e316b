/- Division of two words by the parts of a turn: math/big's divWW. -/
import Derived.Test.YtbafddlkeocpeaaGreatDoorBgD
import Derived.Laws.BitsLemmas
import Derived.Laws.Bits64
namespace Go.Proofs.YtbafddlkeocpeaaGreatDoor
open Go.RowKit Lib

theorem ret_ii {k : IntKind} {a b c d : Int} (h : a = b) (g : c = d) : Ending.returned (.tuple #[.int k a, .int k c]) = .returned (.tuple #[.int k b, .int k d]) := by rw [h, g]
theorem divWW_core (x1 x0 q : Nat) (h1 : x1 < 10871635968000000000) (h0 : x0 < 18446744073709551616)
    (hq : q = (x1 * 12853270746740557062 + x1 * 18446744073709551616 + x0) / 18446744073709551616) :
    q * 10871635968000000000 ≤ x1 * 18446744073709551616 + x0 ∧ x1 * 18446744073709551616 + x0 - q * 10871635968000000000 < 18446744073709551616 + 10871635968000000000 ∧ q < 18446744073709551616 := by
  omega
theorem wrapsU64 (n : Int) (h₀ : 0 ≤ n) (h₁ : n < 2 ^ 64) : IntKind.u64.wrap n = n := by rw [IntKind.wrap_u64]; omega
theorem or23 (x1 x0 : Nat) (h1 : x1 < 1296000000000) (h0 : x0 < 18446744073709551616) :
    bits .or .u64 ((x1 : Int) * 8388608) ((x0 : Int) / 2199023255552) = ((x1 * 8388608 + x0 / 2199023255552 : Nat) : Int) := by
  have h := bits_join .u64 64 (by decide) wrapsU64 23 ((x1 : Int) * 8388608) ((x0 : Int) / 2199023255552) (by omega) (by omega) (by omega) (by omega) (by omega) (by omega)
  rw [h]; omega

theorem sub_parts (X1 X0 s s1 s0 r0 r1 b r : Nat) (hX1 : X1 < 18446744073709551616) (hX0 : X0 < 18446744073709551616) (hs1 : s1 = s / 18446744073709551616) (hs0 : s0 = s % 18446744073709551616)
    (hle : s ≤ X1 * 18446744073709551616 + X0) (hr : r = X1 * 18446744073709551616 + X0 - s) (hr0 : r0 = (X0 + 18446744073709551616 - s0) % 18446744073709551616)
    (hb : b = if X0 < s0 then 1 else 0) (hr1 : r1 = (X1 + 18446744073709551616 - s1 - b) % 18446744073709551616) : r = r1 * 18446744073709551616 + r0 := by
  by_cases k : X0 < s0
  · rw [if_pos k] at hb; omega
  · rw [if_neg k] at hb; omega

theorem quo_parts (X q r : Nat) (hle : q * 10871635968000000000 ≤ X) (hr : r = X - q * 10871635968000000000) :
    X / 10871635968000000000 = q + r / 10871635968000000000 ∧ X % 10871635968000000000 = r % 10871635968000000000 := by omega
theorem quo_bd (X1 X0 : Nat) (h1 : X1 < 10871635968000000000) (h0 : X0 < 18446744073709551616) : (X1 * 18446744073709551616 + X0) / 10871635968000000000 < 18446744073709551616 := by omega

set_option maxHeartbeats 200000 in
set_option maxRecDepth 20000 in
theorem divWW_T (x1 x0 : Nat) (h1 : x1 < 1296000000000) (h0 : x0 < 18446744073709551616) (w : World) :
    Calls Tryz.prog 122 #[.int .u64 x1, .int .u64 x0, .int .u64 1296000000000, .int .u64 12853270746740557062] w fun e w' =>
      e = .returned (.tuple #[.int .u64 (((x1 * 18446744073709551616 + x0) / 1296000000000 : Nat) : Int), .int .u64 (((x1 * 18446744073709551616 + x0) % 1296000000000 : Nat) : Int)]) ∧ Below w.heap.size w w' := by
  have N := Lib.hid (fun W => nlz_T W)
  have o1 := or23 x1 x0 h1 h0
  have o2 : IntKind.u64.wrap ((x0 : Int) * 8388608) = ((x0 * 8388608 % 18446744073709551616 : Nat) : Int) := by rw [IntKind.wrap_u64]; omega
  obtain ⟨X1, hX1⟩ : ∃ X1, X1 = x1 * 8388608 + x0 / 2199023255552 := ⟨_, rfl⟩
  obtain ⟨X0, hX0⟩ : ∃ X0, X0 = x0 * 8388608 % 18446744073709551616 := ⟨_, rfl⟩
  rw [← hX1] at o1
  rw [← hX0] at o2
  have hX : X1 * 18446744073709551616 + X0 = (x1 * 18446744073709551616 + x0) * 8388608 := by omega
  have bX1 : X1 < 10871635968000000000 := by omega
  have bX0 : X0 < 18446744073709551616 := by omega
  have hQ : (x1 * 18446744073709551616 + x0) / 1296000000000 = (X1 * 18446744073709551616 + X0) / 10871635968000000000 := by rw [hX]; omega
  have hR : (x1 * 18446744073709551616 + x0) % 1296000000000 = (X1 * 18446744073709551616 + X0) % 10871635968000000000 / 8388608 := by rw [hX]; omega
  rw [hQ, hR]
  clear hQ hR hX hX1 hX0
  obtain ⟨q, hq⟩ : ∃ q, q = (X1 * 12853270746740557062 + X1 * 18446744073709551616 + X0) / 18446744073709551616 := ⟨_, rfl⟩
  obtain ⟨c1, c2, bq⟩ := divWW_core X1 X0 q bX1 bX0 hq
  have HM : Hid (∀ W, Calls Tryz.prog 84 #[.int .u64 12853270746740557062, .int .u64 (X1 : Int)] W fun e w' => e = .returned (.tuple #[.int .u64 ((X1 * 12853270746740557062 / 18446744073709551616 : Nat) : Int), .int .u64 ((X1 * 12853270746740557062 % 18446744073709551616 : Nat) : Int)]) ∧ w' = W) := Lib.hid (fun W => by
    have h := Tryz.bits_Mul 12853270746740557062 X1 (by omega) (by omega) W
    rw [Nat.mul_comm 12853270746740557062 X1] at h
    exact h)
  obtain ⟨t1, ht1⟩ : ∃ t, t = X1 * 12853270746740557062 / 18446744073709551616 := ⟨_, rfl⟩
  obtain ⟨t0, ht0⟩ : ∃ t, t = X1 * 12853270746740557062 % 18446744073709551616 := ⟨_, rfl⟩
  rw [← ht1, ← ht0] at HM
  obtain ⟨c, hc⟩ : ∃ c, c = (t0 + X0) / 18446744073709551616 := ⟨_, rfl⟩
  obtain ⟨u, hu⟩ : ∃ c, c = (t0 + X0) % 18446744073709551616 := ⟨_, rfl⟩
  have HA : Hid (∀ W, Calls Tryz.prog 80 #[.int .u64 (t0 : Int), .int .u64 (X0 : Int), .int .u64 0] W fun e w' => e = .returned (.tuple #[.int .u64 (u : Int), .int .u64 (c : Int)]) ∧ w' = W) := Lib.hid (fun W => by
    have h := bits_add t0 X0 0 (by omega) (by omega) (by omega) W
    rw [Nat.add_zero, ← hc, ← hu] at h
    exact h)
  have hqc : (t1 + X1 + c) % 18446744073709551616 = q := by omega
  obtain ⟨v, hv⟩ : ∃ c', c' = (t1 + X1 + c) / 18446744073709551616 := ⟨_, rfl⟩
  have HA2 : Hid (∀ W, Calls Tryz.prog 80 #[.int .u64 (t1 : Int), .int .u64 (X1 : Int), .int .u64 (c : Int)] W fun e w' => e = .returned (.tuple #[.int .u64 (q : Int), .int .u64 (v : Int)]) ∧ w' = W) := Lib.hid (fun W => by
    have h := bits_add t1 X1 c (by omega) (by omega) (by omega) W
    rw [hqc, ← hv] at h
    exact h)
  obtain ⟨s1, hs1⟩ : ∃ t, t = q * 10871635968000000000 / 18446744073709551616 := ⟨_, rfl⟩
  obtain ⟨s0, hs0⟩ : ∃ t, t = q * 10871635968000000000 % 18446744073709551616 := ⟨_, rfl⟩
  have HM2 : Hid (∀ W, Calls Tryz.prog 84 #[.int .u64 10871635968000000000, .int .u64 (q : Int)] W fun e w' => e = .returned (.tuple #[.int .u64 (s1 : Int), .int .u64 (s0 : Int)]) ∧ w' = W) := Lib.hid (fun W => by
    have h := Tryz.bits_Mul 10871635968000000000 q (by omega) bq W
    rw [Nat.mul_comm 10871635968000000000 q, ← hs1, ← hs0] at h
    exact h)
  obtain ⟨r, hr⟩ : ∃ r, r = X1 * 18446744073709551616 + X0 - q * 10871635968000000000 := ⟨_, rfl⟩
  obtain ⟨r0, hr0⟩ : ∃ r0, r0 = (X0 + 18446744073709551616 - s0) % 18446744073709551616 := ⟨_, rfl⟩
  have b0 : r0 < 18446744073709551616 := by rw [hr0]; exact Nat.mod_lt _ (by decide)
  obtain ⟨b, hb⟩ : ∃ b, b = if X0 < s0 then 1 else 0 := ⟨_, rfl⟩
  have bb : b ≤ 1 := by rw [hb]; split <;> omega
  have HS : Hid (∀ W, Calls Tryz.prog 83 #[.int .u64 (X0 : Int), .int .u64 (s0 : Int), .int .u64 0] W fun e w' => e = .returned (.tuple #[.int .u64 (r0 : Int), .int .u64 (b : Int)]) ∧ w' = W) := Lib.hid (fun W => by
    have h := bits_sub X0 s0 0 (by omega) W
    simp only [Nat.sub_zero, Nat.add_zero, ← hr0, ← hb] at h
    exact h)
  obtain ⟨r1, hr1⟩ : ∃ r1, r1 = (X1 + 18446744073709551616 - s1 - b) % 18446744073709551616 := ⟨_, rfl⟩
  obtain ⟨b2, hb2⟩ : ∃ b', b' = if X1 < s1 + b then 1 else 0 := ⟨_, rfl⟩
  have HS2 : Hid (∀ W, Calls Tryz.prog 83 #[.int .u64 (X1 : Int), .int .u64 (s1 : Int), .int .u64 (b : Int)] W fun e w' => e = .returned (.tuple #[.int .u64 (r1 : Int), .int .u64 (b2 : Int)]) ∧ w' = W) := Lib.hid (fun W => by
    have h := bits_sub X1 s1 b bb W
    rw [← hr1, ← hb2] at h
    exact h)
  have hrr : r = r1 * 18446744073709551616 + r0 := sub_parts X1 X0 _ s1 s0 r0 r1 b r (by omega) bX0 hs1 hs0 c1 hr hr0 hb hr1
  obtain ⟨hQ, hR⟩ := quo_parts _ q r c1 hr
  have bqr := quo_bd X1 X0 bX1 bX0
  rw [hQ] at bqr
  rw [hQ, hR]
  rw [← hr] at c2
  clear hQ hR c1 hq hqc ht1 ht0 hc hu hv hs1 hs0 hr hr0 hb hr1 hb2 bX1 bX0
  have bq2 : (0 : Int) ≤ q ∧ (q : Int) ≤ 18446744073709551615 := by omega
  obtain ⟨Qf, hQf⟩ : ∃ Q : Nat, Q = q + r / 10871635968000000000 := ⟨_, rfl⟩
  obtain ⟨Rf, hRf⟩ : ∃ R : Nat, R = r % 10871635968000000000 / 8388608 := ⟨_, rfl⟩
  rw [← hQf, ← hRf]
  go_enter Tryz.func122, Tryz.ntmps122
  go_wp2_with fail
  refine (N.out _).mono ?_; rintro e w' ⟨rfl, rfl⟩
  go_wp2_with fail
  refine (HM.out _).mono ?_; rintro e w' ⟨rfl, rfl⟩
  go_wp2_with fail
  refine (HA.out _).mono ?_; rintro e w' ⟨rfl, rfl⟩
  go_wp2_with fail
  refine (HA2.out _).mono ?_; rintro e w' ⟨rfl, rfl⟩
  go_wp2_with fail
  refine (HM2.out _).mono ?_; rintro e w' ⟨rfl, rfl⟩
  go_wp2_with fail
  refine (HS.out _).mono ?_; rintro e w' ⟨rfl, rfl⟩
  go_wp2_with fail
  refine (HS2.out _).mono ?_; rintro e w' ⟨rfl, rfl⟩
  clear N HM HA HA2 HM2 HS HS2 o1 o2
  have k1 : r1 = 0 ∨ r1 = 1 := by omega
  rcases k1 with rfl | rfl
  · by_cases k2 : 10871635968000000000 ≤ r0
    · obtain ⟨y, hy⟩ : ∃ y : Nat, y = r0 - 10871635968000000000 := ⟨_, rfl⟩
      have e1 : IntKind.u64.wrap ((r0 : Int) - 10871635968000000000) = (y : Int) := by rw [IntKind.wrap_u64]; omega
      have b1 : (y : Int) ≤ 18446744073709551615 := by omega
      have k3 : decide ((r0 : Int) ≥ 10871635968000000000) = true := by simp; omega
      have e3 : Hid ((Qf : Int) = (q : Int) + 1) := Lib.hid (by omega)
      have e4 : Hid ((Rf : Int) = (y : Int) / 8388608) := Lib.hid (by omega)
      have b3 : (q : Int) + 1 ≤ 18446744073709551615 := by omega
      clear hQf hRf hrr c2 bqr bq k2 hy
      go_wp2
      go_ret2
      exact ⟨ret_ii e3.out.symm e4.out.symm, Below.refl _ _⟩
    · have k3 : decide ((r0 : Int) ≥ 10871635968000000000) = false := by simp; omega
      have e3 : Hid ((Qf : Int) = (q : Int)) := Lib.hid (by omega)
      have e4 : Hid ((Rf : Int) = (r0 : Int) / 8388608) := Lib.hid (by omega)
      clear hQf hRf hrr c2 bqr bq k2
      go_wp2
      go_ret2
      exact ⟨ret_ii e3.out.symm e4.out.symm, Below.refl _ _⟩
  · obtain ⟨y, hy⟩ : ∃ y : Nat, y = r0 + 18446744073709551616 - 10871635968000000000 := ⟨_, rfl⟩
    have e1 : IntKind.u64.wrap ((r0 : Int) - 10871635968000000000) = (y : Int) := by rw [IntKind.wrap_u64]; omega
    have b1 : (y : Int) ≤ 18446744073709551615 := by omega
    have b2' : ¬ (0 : Int) ≤ (r0 : Int) - 10871635968000000000 := by omega
    have b3 : (q : Int) + 1 ≤ 18446744073709551615 := by omega
    by_cases k2 : 10871635968000000000 ≤ y
    · obtain ⟨z, hz⟩ : ∃ z : Nat, z = y - 10871635968000000000 := ⟨_, rfl⟩
      have e5 : IntKind.u64.wrap ((y : Int) - 10871635968000000000) = (z : Int) := by rw [IntKind.wrap_u64]; omega
      have b4 : (z : Int) ≤ 18446744073709551615 := by omega
      have k3 : decide ((y : Int) ≥ 10871635968000000000) = true := by simp; omega
      have e3 : Hid ((Qf : Int) = (q : Int) + 1 + 1) := Lib.hid (by omega)
      have e4 : Hid ((Rf : Int) = (z : Int) / 8388608) := Lib.hid (by omega)
      have b5 : (q : Int) + 1 + 1 ≤ 18446744073709551615 := by omega
      clear hQf hRf hrr c2 bqr bq k2 hy hz
      go_wp2
      go_ret2
      exact ⟨ret_ii e3.out.symm e4.out.symm, Below.refl _ _⟩
    · have k3 : decide ((y : Int) ≥ 10871635968000000000) = false := by simp; omega
      have e3 : Hid ((Qf : Int) = (q : Int) + 1) := Lib.hid (by omega)
      have e4 : Hid ((Rf : Int) = (y : Int) / 8388608) := Lib.hid (by omega)
      clear hQf hRf hrr c2 bqr bq k2 hy
      go_wp2
      go_ret2
      exact ⟨ret_ii e3.out.symm e4.out.symm, Below.refl _ _⟩
end Go.Proofs.YtbafddlkeocpeaaGreatDoor
