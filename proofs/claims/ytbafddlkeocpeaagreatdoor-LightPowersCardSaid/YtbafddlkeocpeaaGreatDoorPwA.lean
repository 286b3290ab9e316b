/- What the reference's AngleTimes answers; what light's far, Best answer. -/
import Derived.Test.YtbafddlkeocpeaaGreatDoorPwP
import Derived.Test.YtbafddlkeocpeaaGreatDoorInts
namespace Go.Proofs.YtbafddlkeocpeaaGreatDoor
open Go.RowKit

theorem angleTimes_pos (a t : Int) (ha : In64 a) (h0 : 0 ≤ t) (ht : t ≤ 1099511627776) (w : World) :
    Calls Tryz.prog 18 #[.int .i64 a, .int .i64 t] w fun e w' => e = .returned (.int .i64 (angM a t)) ∧ w' = w := by
  have hb := nrm_bd a
  have HN := Lib.hid (fun W => normOf_any a W ha)
  have hE := angles_eq a t h0
  obtain ⟨hi, hhi⟩ : ∃ hi : Nat, t.tdiv 1048576 = (hi : Int) := ⟨(t.tdiv 1048576).toNat, by rw [Int.toNat_of_nonneg (by rw [Int.tdiv_eq_ediv_of_nonneg h0]; omega)]⟩
  obtain ⟨lo, hlo⟩ : ∃ lo : Nat, t.tmod 1048576 = (lo : Int) := ⟨(t.tmod 1048576).toNat, by rw [Int.toNat_of_nonneg (by rw [Int.tmod_eq_emod_of_nonneg h0]; omega)]⟩
  have bhi : hi ≤ 1048576 := by rw [Int.tdiv_eq_ediv_of_nonneg h0] at hhi; omega
  have blo : lo < 1048576 := by rw [Int.tmod_eq_emod_of_nonneg h0] at hlo; omega
  rw [hhi, hlo] at hE
  obtain ⟨x, hx⟩ : ∃ x : Nat, nrm a = (x : Int) := ⟨(nrm a).toNat, by omega⟩
  rw [hx] at HN hE hb
  have bx : x < 1296000000000 := by omega
  have b1 : x * hi ≤ 1296000000000 * 1048576 := Nat.mul_le_mul (by omega) bhi
  have b2 : x * lo ≤ 1296000000000 * 1048576 := Nat.mul_le_mul (by omega) (by omega)
  rw [← Int.natCast_mul, ← Int.natCast_mul] at hE
  have e1 : (x : Int) * (hi : Int) = ((x * hi : Nat) : Int) := by rw [Int.natCast_mul]
  have e2 : (x : Int) * (lo : Int) = ((x * lo : Nat) : Int) := by rw [Int.natCast_mul]
  generalize x * hi = p at *
  generalize x * lo = q at *
  have e3 : ((p : Int)).tmod 1296000000000 = ((p % 1296000000000 : Nat) : Int) := by rw [Int.tmod_eq_emod_of_nonneg (by omega)]; omega
  obtain ⟨p1, hp1⟩ : ∃ p1, p1 = p % 1296000000000 := ⟨_, rfl⟩
  have bp1 : p1 < 1296000000000 := by omega
  rw [← hp1] at e3
  have e4 : ((p1 : Int) * 1048576).tmod 1296000000000 = ((p1 * 1048576 % 1296000000000 : Nat) : Int) := by rw [Int.tmod_eq_emod_of_nonneg (by omega)]; omega
  obtain ⟨p2, hp2⟩ : ∃ p2, p2 = p1 * 1048576 % 1296000000000 := ⟨_, rfl⟩
  have bp2 : p2 < 1296000000000 := by omega
  rw [← hp2] at e4
  have e5 : ((q : Int)).tmod 1296000000000 = ((q % 1296000000000 : Nat) : Int) := by rw [Int.tmod_eq_emod_of_nonneg (by omega)]; omega
  obtain ⟨q1, hq1⟩ : ∃ q1, q1 = q % 1296000000000 := ⟨_, rfl⟩
  have bq1 : q1 < 1296000000000 := by omega
  rw [← hq1] at e5
  have hfin : angM a t = nrm ((p2 : Int) + (q1 : Int)) := by rw [← hE]; unfold nrm; omega
  rw [hfin]
  have HN2 := Lib.hid (fun W => normOf_any ((p2 : Int) + (q1 : Int)) W (by unfold In64; omega))
  generalize nrm ((p2 : Int) + (q1 : Int)) = R at *
  have c1 : (p : Int) ≤ 1358954496000000000 := by omega
  have c2 : (q : Int) ≤ 1358954496000000000 := by omega
  have c3 : (p1 : Int) * 1048576 ≤ 1358954496000000000 := by omega
  have c4 : (p2 : Int) + (q1 : Int) ≤ 9223372036854775807 := by omega
  have c5 : (hi : Int) ≤ 1048576 := by omega
  have c6 : (lo : Int) ≤ 1048576 := by omega
  clear hE hb hx bx b1 b2 hp1 hp2 hq1 hfin bhi blo
  have ht' : ¬ t < 0 := by omega
  go_enter Tryz.func18, Tryz.ntmps18
  go_wp2_with fail
  refine (HN.out _).mono ?_; rintro e w1 ⟨rfl, rfl⟩
  go_wp2_with fail
  refine (HN2.out _).mono ?_; rintro e w1 ⟨rfl, rfl⟩
  go_wp2
  go_ret
  exact ⟨rfl, rfl⟩
theorem angleTimes_neg (a t : Int) (ha : In64 a) (h0 : t < 0) (ht : -1099511627776 ≤ t) (w : World) :
    Calls Tryz.prog 18 #[.int .i64 a, .int .i64 t] w fun e w' => e = .returned (.int .i64 (angM a t)) ∧ w' = w := by
  have hb := nrm_bd a
  have HN := Lib.hid (fun W => normOf_any a W ha)
  obtain ⟨s, hs⟩ : ∃ s : Int, s = -t := ⟨_, rfl⟩
  have hE := angles_eq a s (by omega)
  have hhi : ∃ hi : Nat, s.tdiv 1048576 = (hi : Int) := ⟨(s.tdiv 1048576).toNat, by rw [Int.toNat_of_nonneg (by rw [Int.tdiv_eq_ediv_of_nonneg (by omega)]; omega)]⟩
  obtain ⟨hi, hhi⟩ := hhi
  obtain ⟨lo, hlo⟩ : ∃ lo : Nat, s.tmod 1048576 = (lo : Int) := ⟨(s.tmod 1048576).toNat, by rw [Int.toNat_of_nonneg (by rw [Int.tmod_eq_emod_of_nonneg (by omega)]; omega)]⟩
  have bhi : hi ≤ 1048576 := by rw [Int.tdiv_eq_ediv_of_nonneg (by omega)] at hhi; omega
  have blo : lo < 1048576 := by rw [Int.tmod_eq_emod_of_nonneg (by omega)] at hlo; omega
  rw [hhi, hlo] at hE
  obtain ⟨x, hx⟩ : ∃ x : Nat, nrm a = (x : Int) := ⟨(nrm a).toNat, by omega⟩
  rw [hx] at HN hE hb
  have bx : x < 1296000000000 := by omega
  have b1 : x * hi ≤ 1296000000000 * 1048576 := Nat.mul_le_mul (by omega) bhi
  have b2 : x * lo ≤ 1296000000000 * 1048576 := Nat.mul_le_mul (by omega) (by omega)
  rw [← Int.natCast_mul, ← Int.natCast_mul] at hE
  have e1 : (x : Int) * (hi : Int) = ((x * hi : Nat) : Int) := by rw [Int.natCast_mul]
  have e2 : (x : Int) * (lo : Int) = ((x * lo : Nat) : Int) := by rw [Int.natCast_mul]
  generalize x * hi = p at *
  generalize x * lo = q at *
  have e3 : ((p : Int)).tmod 1296000000000 = ((p % 1296000000000 : Nat) : Int) := by rw [Int.tmod_eq_emod_of_nonneg (by omega)]; omega
  obtain ⟨p1, hp1⟩ : ∃ p1, p1 = p % 1296000000000 := ⟨_, rfl⟩
  have bp1 : p1 < 1296000000000 := by omega
  rw [← hp1] at e3
  have e4 : ((p1 : Int) * 1048576).tmod 1296000000000 = ((p1 * 1048576 % 1296000000000 : Nat) : Int) := by rw [Int.tmod_eq_emod_of_nonneg (by omega)]; omega
  obtain ⟨p2, hp2⟩ : ∃ p2, p2 = p1 * 1048576 % 1296000000000 := ⟨_, rfl⟩
  have bp2 : p2 < 1296000000000 := by omega
  rw [← hp2] at e4
  have e5 : ((q : Int)).tmod 1296000000000 = ((q % 1296000000000 : Nat) : Int) := by rw [Int.tmod_eq_emod_of_nonneg (by omega)]; omega
  obtain ⟨q1, hq1⟩ : ∃ q1, q1 = q % 1296000000000 := ⟨_, rfl⟩
  have bq1 : q1 < 1296000000000 := by omega
  rw [← hq1] at e5
  have hfin : angM a t = nrm (-((p2 : Int) + (q1 : Int))) := by
    have h2 : ((p2 : Int) + (q1 : Int)) % 1296000000000 = angM a s := by rw [← hE]; omega
    have h3 := angles_neg a s _ h2
    rw [show -s = t by omega] at h3
    rw [← h3]; rfl
  rw [hfin]
  have HN2 := Lib.hid (fun W => normOf_any (-((p2 : Int) + (q1 : Int))) W (by unfold In64; omega))
  have e6 : -1 * ((p2 : Int) + (q1 : Int)) = -((p2 : Int) + (q1 : Int)) := by omega
  generalize nrm (-((p2 : Int) + (q1 : Int))) = R at *
  have c1 : (p : Int) ≤ 1358954496000000000 := by omega
  have c2 : (q : Int) ≤ 1358954496000000000 := by omega
  have c3 : (p1 : Int) * 1048576 ≤ 1358954496000000000 := by omega
  have c4 : (p2 : Int) + (q1 : Int) ≤ 9223372036854775807 := by omega
  have c5 : (hi : Int) ≤ 1048576 := by omega
  have c6 : (lo : Int) ≤ 1048576 := by omega
  have c7 : (s : Int) ≤ 1099511627776 := by omega
  have c8 : 0 ≤ s := by omega
  have hs2 : (0 : Int) - t = s := by omega
  have hs3 : -t = s := by omega
  clear hE hb hx bx b1 b2 hp1 hp2 hq1 hfin bhi blo hs
  go_enter Tryz.func18, Tryz.ntmps18
  go_wp2_with fail
  refine (HN.out _).mono ?_; rintro e w1 ⟨rfl, rfl⟩
  go_wp2_with fail
  refine (HN2.out _).mono ?_; rintro e w1 ⟨rfl, rfl⟩
  go_wp2
  go_ret
  exact ⟨rfl, rfl⟩
theorem angleTimes_any (a t : Int) (ha : In64 a) (ht : -1099511627776 ≤ t ∧ t ≤ 1099511627776) (w : World) :
    Calls Tryz.prog 18 #[.int .i64 a, .int .i64 t] w fun e w' => e = .returned (.int .i64 (angM a t)) ∧ w' = w := by
  by_cases h0 : 0 ≤ t
  · exact angleTimes_pos a t ha h0 ht.2 w
  · exact angleTimes_neg a t ha (by omega) ht.1 w
end Go.Proofs.YtbafddlkeocpeaaGreatDoor
