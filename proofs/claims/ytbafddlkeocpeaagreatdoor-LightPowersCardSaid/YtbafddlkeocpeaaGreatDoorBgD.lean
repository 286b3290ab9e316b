/- Division of two words by the parts of a turn. -/
import Derived.Test.YtbafddlkeocpeaaGreatDoorBgC
namespace Go.Proofs.YtbafddlkeocpeaaGreatDoor
open Go.RowKit

theorem nlz_T (w : World) :
    Calls Tryz.prog 98 #[.int .u64 1296000000000] w fun e w' => e = .returned (.int .u64 23) ∧ w' = w := by
  have H := Lib.hid (fun W => Tryz.bits_LeadingZeros 1296000000000 W (by omega) (by omega))
  have e : (64 - (Lib.bitLen (1296000000000 : Int).toNat : Int)) = 23 := by decide +kernel
  go_enter Tryz.func98, Tryz.ntmps98
  go_wp2_with fail
  refine (H.out _).mono ?_; rintro e w' ⟨rfl, rfl⟩
  rw [e]
  go_wp2
  go_ret
  exact ⟨rfl, rfl⟩
theorem lz64_d (w : World) :
    Calls Tryz.prog 153 #[.int .u64 10871635968000000000] w fun e w' => e = .returned (.int .i64 0) ∧ w' = w := by
  have e : (64 - (Lib.bitLen (10871635968000000000 : Int).toNat : Int)) = 0 := by decide +kernel
  refine (Tryz.bits_LeadingZeros64 10871635968000000000 w (by omega) (by omega)).mono ?_
  rintro e' w' ⟨rfl, rfl⟩
  rw [e]; exact ⟨rfl, rfl⟩
set_option maxRecDepth 20000 in
set_option maxHeartbeats 2000000 in
theorem div64_d (w : World) :
    Calls Tryz.prog 140 #[.int .u64 7575108105709551615, .int .u64 18446744073709551615, .int .u64 10871635968000000000] w fun e w' =>
      e = .returned (.tuple #[.int .u64 12853270746740557062, .int .u64 10120877127768211455]) ∧ Below w.heap.size w w' := by
  have H := Lib.hid (fun W => lz64_d W)
  have b1 : bits .and .u64 10871635968000000000 4294967295 = 0 := by decide +kernel
  have b2 : bits .or .u64 7575108105709551615 0 = 7575108105709551615 := by decide +kernel
  have b3 : bits .and .u64 18446744073709551615 4294967295 = 4294967295 := by decide +kernel
  go_enter Tryz.func140, Tryz.ntmps140
  go_wp2_with fail
  refine (H.out _).mono ?_; rintro e w' ⟨rfl, rfl⟩
  go_wp2
  refine wp_loop_rounds 1 ?_
  rw [rounds_succ]; go_wp2
  refine wp_loop_rounds 1 ?_
  rw [rounds_succ]; go_wp2
  go_ret2
  exact ⟨rfl, by go_grown⟩
theorem div_d (w : World) :
    Calls Tryz.prog 120 #[.int .u64 7575108105709551615, .int .u64 18446744073709551615, .int .u64 10871635968000000000] w fun e w' =>
      e = .returned (.tuple #[.int .u64 12853270746740557062, .int .u64 10120877127768211455]) ∧ Below w.heap.size w w' := by
  have H := Lib.hid (fun W => div64_d W)
  go_enter Tryz.func120, Tryz.ntmps120
  go_wp2_with fail
  refine (H.out _).mono ?_; rintro e w' ⟨rfl, hb⟩
  go_wp2
  go_ret2
  exact ⟨rfl, hb⟩
theorem rec_T (w : World) :
    Calls Tryz.prog 121 #[.int .u64 1296000000000] w fun e w' => e = .returned (.int .u64 12853270746740557062) ∧ Below w.heap.size w w' := by
  have H := Lib.hid (fun W => div_d W)
  have N := Lib.hid (fun W => nlz_T W)
  have hx : (Op.unary .xor (.int .u64 10871635968000000000)) = pure (.int .u64 7575108105709551615) := by rfl
  go_enter Tryz.func121, Tryz.ntmps121
  go_wp2_with fail
  refine (N.out _).mono ?_; rintro e w' ⟨rfl, rfl⟩
  go_wp2_with fail
  refine (H.out _).mono ?_; rintro e w' ⟨rfl, hb⟩
  go_wp2
  go_ret
  exact ⟨rfl, hb⟩
theorem div64_small (x : Nat) (hx : x < 18446744073709551616) (w : World) :
    Calls Tryz.prog 140 #[.int .u64 0, .int .u64 x, .int .u64 1296000000000] w fun e w' =>
      e = .returned (.tuple #[.int .u64 ((x / 1296000000000 : Nat) : Int), .int .u64 ((x % 1296000000000 : Nat) : Int)]) ∧ Below w.heap.size w w' := by
  have e1 : ((x : Int)).tdiv 1296000000000 = ((x / 1296000000000 : Nat) : Int) := by rw [Int.tdiv_eq_ediv_of_nonneg (by omega)]; omega
  have e2 : ((x : Int)).tmod 1296000000000 = ((x % 1296000000000 : Nat) : Int) := by rw [Int.tmod_eq_emod_of_nonneg (by omega)]; omega
  generalize hq : ((x / 1296000000000 : Nat) : Int) = q at *
  generalize hr : ((x % 1296000000000 : Nat) : Int) = r at *
  have b1 : 0 ≤ q ∧ q ≤ 18446744073709551615 := by omega
  have b2 : 0 ≤ r ∧ r ≤ 18446744073709551615 := by omega
  clear hq hr
  go_enter Tryz.func140, Tryz.ntmps140
  go_wp2
  go_quiet (fail)
  go_wp2
  go_ret2
  exact ⟨rfl, below_drewN (Below.refl _ _) _⟩
theorem div_small (x : Nat) (hx : x < 18446744073709551616) (w : World) :
    Calls Tryz.prog 120 #[.int .u64 0, .int .u64 x, .int .u64 1296000000000] w fun e w' =>
      e = .returned (.tuple #[.int .u64 ((x / 1296000000000 : Nat) : Int), .int .u64 ((x % 1296000000000 : Nat) : Int)]) ∧ Below w.heap.size w w' := by
  have H := Lib.hid (fun W => div64_small x hx W)
  go_enter Tryz.func120, Tryz.ntmps120
  go_wp2_with fail
  refine (H.out _).mono ?_; rintro e w' ⟨rfl, hb⟩
  go_wp2
  go_ret2
  exact ⟨rfl, hb⟩
end Go.Proofs.YtbafddlkeocpeaaGreatDoor
