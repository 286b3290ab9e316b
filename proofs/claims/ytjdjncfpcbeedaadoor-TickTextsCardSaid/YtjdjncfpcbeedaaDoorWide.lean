/- Wide of package meridianref1: a number of so many digits. -/
import Derived.Test.YtjdjncfpcbeedaaDoorConv
namespace Go.Proofs.YtjdjncfpcbeedaaDoor
open Go.RowKit

set_option maxHeartbeats 1000000 in
theorem wide_any (n w : Nat) (hn : n < 9223372036854775808) (hw : w ≤ 1000) (W : World) :
    Calls Tryd.prog 54 #[.int .i64 n, .int .i64 w] W fun e w' => e = .returned (.string (bs (wideL w n))) ∧ Below W.heap.size W w' := by
  go_enter Tryd.func54, Tryd.ntmps54
  go_wp2
  go_loopw [0, 5, 6] (fun v out i wr => ∃ (k m : Nat) (s : ByteArray), k ≤ w ∧ i = .int .i64 k ∧ v = .int .i64 m ∧ out = .string s ∧ m < 9223372036854775808 ∧ s.size = k ∧ Hid (m = n / 10 ^ k) ∧ Hid (s = bs (wideL k n)) ∧ Hid (Below W.heap.size W wr)) (fun _ _ i _ => w - (intOf i).toNat)
  case atStart => exact ⟨0, n, bs [], Nat.zero_le _, rfl, rfl, rfl, hn, rfl, Lib.hid (by simp), Lib.hid rfl, Below.refl _ _⟩
  case round =>
    obtain ⟨k, m, s, hk, rfl, rfl, rfl, hm, hs, Hm, Hs, hb⟩ := hrel
    by_cases hlt : k < w
    · have hcv := fun (W : World) (b : Nat) h => conv_cell W b (48 + (m : Int) % 10) (by omega) (by omega) h
      have hr : Hid (bs [UInt8.ofNat (48 + (m : Int) % 10).toNat] ++ s = bs (wideL (k + 1) n)) := Lib.hid (by
        rw [Hs.out, bs_append, wideL_cons, ← Hm.out, show (48 + (m : Int) % 10).toNat = 48 + m % 10 by omega]; rfl)
      have hq : (bs [UInt8.ofNat (48 + (m : Int) % 10).toNat]).size = 1 := by rw [bs_size]; rfl
      have hm1 : Hid (m / 10 = n / 10 ^ (k + 1)) := Lib.hid (by rw [Hm.out, Nat.pow_succ, Nat.div_div_eq_div_mul])
      have hsz := hb.out.size
      have hs1 : s.size ≤ 1000 := by omega
      generalize bs [UInt8.ofNat (48 + (m : Int) % 10).toNat] = q at *
      have hq1 : q.size ≤ 1 := by omega
      have HS : Hid (s.size = k) := Lib.hid hs
      have HQ : Hid (q.size = 1) := Lib.hid hq
      clear hs hq Hm Hs
      go_wp2
      go_roundw
      case rel => exact ⟨k + 1, m / 10, q ++ s, by omega, by go_num, by go_num, rfl, by omega, by rw [ByteArray.size_append, HS.out, HQ.out]; omega, hm1, hr, (hb.out.alloc hsz _)⟩
      case measure => simp [intOf]; omega
    · obtain rfl : k = w := by omega
      go_wp2
      go_ret
      exact ⟨by rw [← Hs.out]; rfl, hb.out⟩
/-- The same, as the walks take it. -/
theorem wide_int (x : Int) (w : Nat) (h0 : 0 ≤ x) (h1 : x < 9223372036854775808) (hw : w ≤ 1000) (W : World) :
    Calls Tryd.prog 54 #[.int .i64 x, .int .i64 w] W fun e w' => ∃ d : ByteArray, e = .returned (.string d) ∧ d.size ≤ w ∧ Hid (d = bs (wideL w x.toNat)) ∧ Below W.heap.size W w' := by
  have e : ((x.toNat : Nat) : Int) = x := by omega
  have h := wide_any x.toNat w (by omega) hw W
  rw [e] at h
  exact h.mono fun e w' ⟨he, hb⟩ => ⟨_, he, by rw [bs_size, wideL_length]; exact Nat.le_refl _, Lib.hid rfl, hb⟩
end Go.Proofs.YtjdjncfpcbeedaaDoor
