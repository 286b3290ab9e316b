/- What arc.Mean and its reference compute, for every list of ints. -/
import Derived.Test.YtlhfmeekbijhgaaArc
import Derived.Lib.Hide
import Derived.Deep.QuietTactic
import Derived.BigQuiet
namespace Go.Proofs.Ytlhfmeekbijhgaa
open Go.RowKit

/-- How far the k-th angle is from the first. -/
def dd (z : Nat → Int) (k : Nat) : Int := sgn (nrm (z k) - nrm (z 0))
def sumTo (z : Nat → Int) : Nat → Int
  | 0 => 0
  | k + 1 => sumTo z k + dd z k
def okTo (z : Nat → Int) (len : Nat) : Prop := ∀ k, k < len → -324000000000 < dd z k ∧ dd z k < 324000000000
open Classical in
noncomputable def meanF (z : Nat → Int) (len : Nat) : Int × Bool :=
  if len = 0 ∨ 4000 < len then (0, false)
  else if okTo z len then (nrm (nrm (z 0) + sumTo z len / len), true) else (0, false)

theorem dd_bd (z : Nat → Int) (k : Nat) : -648000000000 ≤ dd z k ∧ dd z k ≤ 648000000000 := by
  have := sgn_bd (nrm (z k) - nrm (z 0)); unfold dd; omega
theorem sumTo_bd (z : Nat → Int) (k : Nat) : -648000000000 * (k : Int) ≤ sumTo z k ∧ sumTo z k ≤ 648000000000 * (k : Int) := by
  induction k with
  | zero => simp [sumTo]
  | succ k ih => have := dd_bd z k; simp only [sumTo]; omega
theorem meanF_zero (z : Nat → Int) : meanF z 0 = (0, false) := by unfold meanF; rw [if_pos (Or.inl rfl)]
theorem meanF_long (z : Nat → Int) (len : Nat) (h : 4000 < len) : meanF z len = (0, false) := by unfold meanF; rw [if_pos (Or.inr h)]
theorem meanF_bad (z : Nat → Int) (len k : Nat) (hk : k < len) (h : ¬ (-324000000000 < dd z k ∧ dd z k < 324000000000)) : meanF z len = (0, false) := by
  unfold meanF
  by_cases hc : len = 0 ∨ 4000 < len
  · rw [if_pos hc]
  · rw [if_neg hc, if_neg (fun g => h (g k hk))]
theorem meanF_good (z : Nat → Int) (len : Nat) (h0 : 1 ≤ len) (h1 : len ≤ 4000) (h : okTo z len) : meanF z len = (nrm (nrm (z 0) + sumTo z len / len), true) := by
  unfold meanF
  rw [if_neg (by omega), if_pos h]

theorem ret_mean (p : Int × Bool) (a : Int) (b : Bool) (h : p = (a, b)) : Ending.returned (.tuple #[.int .i64 a, .bool b]) = .returned (.tuple #[.int .i64 p.1, .bool p.2]) := by rw [h]

/-- The quotient, rounded down, as Go's text makes it. -/
theorem floor_down (s n : Int) (hn : 1 ≤ n) (h : s < s.tdiv n * n) : s / n = s.tdiv n - 1 := by
  rcases Int.lt_or_le s 0 with hs | hs
  · have e : s.tdiv n = -((-s) / n) := by
      have h1 : s = -(-s) := by omega
      rw [h1, Int.neg_tdiv, Int.neg_neg, Int.tdiv_eq_ediv_of_nonneg (by omega)]
    rw [e] at h ⊢
    have a1 := Int.mul_ediv_add_emod (-s) n
    have a2 := Int.emod_nonneg (-s) (by omega : n ≠ 0)
    have a3 := Int.emod_lt_of_pos (-s) (by omega : 0 < n)
    generalize (-s) / n = q at *
    generalize (-s) % n = r at *
    have : s = n * (-q - 1) + (n - r) := by rw [Int.mul_sub, Int.mul_neg]; omega
    have hr : 0 < r := by
      rw [Int.neg_mul, Int.mul_comm] at h; omega
    rw [this, Int.mul_add_ediv_left _ _ (by omega), Int.ediv_eq_zero_of_lt (by omega) (by omega)]
    omega
  · rw [Int.tdiv_eq_ediv_of_nonneg hs] at h
    have := Int.ediv_mul_le s (by omega : n ≠ 0)
    omega
theorem floor_same (s n : Int) (hn : 1 ≤ n) (h : s.tdiv n * n ≤ s) : s / n = s.tdiv n := by
  rcases Int.lt_or_le s 0 with hs | hs
  · have e : s.tdiv n = -((-s) / n) := by
      have h1 : s = -(-s) := by omega
      rw [h1, Int.neg_tdiv, Int.neg_neg, Int.tdiv_eq_ediv_of_nonneg (by omega)]
    rw [e] at h ⊢
    have a1 := Int.mul_ediv_add_emod (-s) n
    have a2 := Int.emod_nonneg (-s) (by omega : n ≠ 0)
    generalize (-s) / n = q at *
    generalize (-s) % n = r at *
    have hr : r = 0 := by
      rw [Int.neg_mul, Int.mul_comm] at h; omega
    have : s = n * (-q) := by rw [Int.mul_neg]; omega
    rw [this, Int.mul_ediv_cancel_left _ (by omega)]
  · rw [Int.tdiv_eq_ediv_of_nonneg hs]
theorem tdiv_bd (s n : Int) (hn : 1 ≤ n) (B : Int) (hB : 0 ≤ B) (h : -B ≤ s ∧ s ≤ B) : -B ≤ s.tdiv n ∧ s.tdiv n ≤ B := by
  rcases Int.lt_or_le s 0 with hs | hs
  · have e : s.tdiv n = -((-s) / n) := by
      have h1 : s = -(-s) := by omega
      rw [h1, Int.neg_tdiv, Int.neg_neg, Int.tdiv_eq_ediv_of_nonneg (by omega)]
    have a := Int.ediv_le_self n (by omega : 0 ≤ -s)
    have b := Int.ediv_nonneg (by omega : 0 ≤ -s) (by omega : 0 ≤ n)
    omega
  · rw [Int.tdiv_eq_ediv_of_nonneg hs]
    have a := Int.ediv_le_self n hs
    have b := Int.ediv_nonneg hs (by omega : 0 ≤ n)
    omega

theorem tdiv_mul_bd (s n : Int) (hn : 1 ≤ n) (B : Int) (hB : 0 ≤ B) (h : -B ≤ s ∧ s ≤ B) : -B ≤ s.tdiv n * n ∧ s.tdiv n * n ≤ B := by
  rcases Int.lt_or_le s 0 with hs | hs
  · have e : s.tdiv n = -((-s) / n) := by
      have h1 : s = -(-s) := by omega
      rw [h1, Int.neg_tdiv, Int.neg_neg, Int.tdiv_eq_ediv_of_nonneg (by omega)]
    rw [e, Int.neg_mul]
    have a := Int.ediv_mul_le (-s) (by omega : n ≠ 0)
    have b : 0 ≤ (-s) / n * n := Int.mul_nonneg (Int.ediv_nonneg (by omega) (by omega)) (by omega)
    omega
  · rw [Int.tdiv_eq_ediv_of_nonneg hs]
    have a := Int.ediv_mul_le s (by omega : n ≠ 0)
    have b : 0 ≤ s / n * n := Int.mul_nonneg (Int.ediv_nonneg hs (by omega)) (by omega)
    omega

theorem norm_q (a : Int) (w : World) (ha : In64 a) :
    Calls Try.prog 11 #[.int .i64 a] w fun e w' => e = .returned (.int .i64 (nrm a)) ∧ w' = w :=
  (norm_any a w ha).mono fun _ _ ⟨h, g⟩ => ⟨h, g.symm⟩
theorem signed_q (a : Int) (w : World) (ha : In64 a) :
    Calls Try.prog 10 #[.int .i64 a] w fun e w' => e = .returned (.int .i64 (sgn a)) ∧ w' = w :=
  (signed_any a w ha).mono fun _ _ ⟨h, g⟩ => ⟨h, g.symm⟩
theorem normOf_q (a : Int) (w : World) (ha : In64 a) :
    Calls Try.prog 13 #[.int .i64 a] w fun e w' => e = .returned (.int .i64 (nrm a)) ∧ w' = w :=
  (normOf_any a w ha).mono fun _ _ ⟨h, g⟩ => ⟨h, g.symm⟩
theorem signedOf_q (a : Int) (w : World) (ha : In64 a) :
    Calls Try.prog 14 #[.int .i64 a] w fun e w' => e = .returned (.int .i64 (sgn a)) ∧ w' = w :=
  (signedOf_any a w ha).mono fun _ _ ⟨h, g⟩ => ⟨h, g.symm⟩

theorem mean_nil (z : Nat → Int) (x : Option Addr) (cap : Nat) (w : World) :
    Calls Try.prog 16 #[.slice x 0 cap] w fun e w' => e = .returned (.tuple #[.int .i64 (meanF z 0).1, .bool (meanF z 0).2]) ∧ ∃ n, w' = w.drewN n := by
  rw [meanF_zero]
  go_enter Try.func16, Try.ntmps16
  go_wp2
  go_ret2
  exact ⟨rfl, 0, rfl⟩

theorem mean_long (z : Nat → Int) (x : Option Addr) (len cap : Nat) (w : World) (h : 4000 < len) :
    Calls Try.prog 16 #[.slice x len cap] w fun e w' => e = .returned (.tuple #[.int .i64 (meanF z len).1, .bool (meanF z len).2]) ∧ ∃ n, w' = w.drewN n := by
  rw [meanF_long z len h]
  have h0 : ((len : Int) == 0) = false := by simp; omega
  go_enter Try.func16, Try.ntmps16
  go_wp2
  go_ret2
  exact ⟨rfl, 0, rfl⟩

theorem mean_some (z : Nat → Int) (b off len cap : Nat) (w : World) (h0 : 1 ≤ len) (h1 : len ≤ 4000)
    (hc : ∀ j, j < len → w.cell? ⟨b, off + j, none⟩ = some (.int .i64 (z j))) (hz : ∀ j, j < len → In64 (z j)) :
    Calls Try.prog 16 #[.slice (some ⟨b, off, none⟩) len cap] w fun e w' => e = .returned (.tuple #[.int .i64 (meanF z len).1, .bool (meanF z len).2]) ∧ ∃ n, w' = w.drewN n := by
  have hl0 : ((len : Int) == 0) = false := by simp; omega
  have hc0 := hc 0 (by omega)
  rw [Nat.add_zero] at hc0
  have hz0 := hz 0 (by omega)
  have HC := Lib.hid hc
  have HZ := Lib.hid hz
  clear hc hz
  go_enter Try.func16, Try.ntmps16
  go_wp2
  go_loopw [4, 20] (fun s i wr => ∃ k n : Nat, k ≤ len ∧ i = .int .i64 k ∧ s = .int .i64 (sumTo z k) ∧ wr = w.drewN n ∧ Hid (okTo z k)) (fun _ i _ => len - (intOf i).toNat)
  case atStart => exact ⟨0, 0, Nat.zero_le _, rfl, rfl, rfl, fun k h => absurd h (Nat.not_lt_zero _)⟩
  case round =>
    obtain ⟨k, n, hk, rfl, rfl, hw, hok⟩ := hrel
    by_cases hlt : k < len
    · have hck : wr.cell? ⟨b, off + k, none⟩ = some (.int .i64 (z k)) := by rw [hw]; simpa using HC.out k hlt
      have hc0 : wr.cell? ⟨b, off, none⟩ = some (.int .i64 (z 0)) := by rw [hw]; simpa using hc0
      have HW := Lib.hid hw
      clear hw
      have hzk := HZ.out k hlt
      have b1 := nrm_bd (z k)
      have b2 := nrm_bd (z 0)
      have b3 := sumTo_bd z k
      have b4 : -648000000000 ≤ sgn (nrm (z k) - nrm (z 0)) ∧ sgn (nrm (z k) - nrm (z 0)) ≤ 648000000000 := dd_bd z k
      go_wp2
      go_quiet (first
        | (go_at_call 11; exact Calls.quiet_of_same (norm_q _ _ hzk))
        | (go_at_call 11; exact Calls.quiet_of_same (norm_q _ _ hz0))
        | (go_at_call 10; exact Calls.quiet_of_same (signed_q _ _ ⟨by omega, by omega⟩)))
      by_cases g1 : 324000000000 ≤ sgn (nrm (z k) - nrm (z 0))
      · go_wp2
        go_ret2
        refine ⟨ret_mean _ _ _ (meanF_bad z len k hlt (by unfold dd; omega)), ?_⟩
        rw [HW.out, World.drewN_drewN]
        exact ⟨_, rfl⟩
      · by_cases g2 : sgn (nrm (z k) - nrm (z 0)) ≤ -324000000000
        · go_wp2
          go_ret2
          refine ⟨ret_mean _ _ _ (meanF_bad z len k hlt (by unfold dd; omega)), ?_⟩
          rw [HW.out, World.drewN_drewN]
          exact ⟨_, rfl⟩
        · go_wp2
          go_roundw
          case rel =>
            refine ⟨k + 1, n + nq, by omega, by go_num, rfl, by rw [HW.out, World.drewN_drewN], ?_⟩
            intro j hj
            by_cases e : j = k
            · subst e; unfold dd; omega
            · exact hok j (by omega)
          case measure => simp [intOf]; omega
    · have e : k = len := by omega
      have b3 := sumTo_bd z k
      rw [e] at b3 hok ⊢
      have b2 := nrm_bd (z 0)
      have b3' : -2592000000000000 ≤ sumTo z len ∧ sumTo z len ≤ 2592000000000000 := by omega
      have q1 := tdiv_bd (sumTo z len) len (by omega) 2592000000000000 (by omega) b3'
      have q2 := tdiv_mul_bd (sumTo z len) len (by omega) 2592000000000000 (by omega) b3'
      have hg := meanF_good z len h0 h1 hok
      have hlt' : ¬ ((len : Int) < len) := by omega
      by_cases hd : sumTo z len < (sumTo z len).tdiv len * len
      · rw [floor_down _ _ (by omega) hd] at hg
        have HG := Lib.hid hg
        clear e hg hlt hk
        go_wp2_with fail
        refine (norm_any _ _ hz0).mono ?_; rintro e w' ⟨rfl, rfl⟩
        go_wp2_with fail
        refine (norm_any _ _ ⟨by omega, by omega⟩).mono ?_; rintro e w' ⟨rfl, rfl⟩
        go_wp2
        go_ret2
        exact ⟨ret_mean _ _ _ HG.out, _, rfl⟩
      · rw [floor_same _ _ (by omega) (by omega)] at hg
        have HG := Lib.hid hg
        clear e hg hlt hk
        go_wp2_with fail
        refine (norm_any _ _ hz0).mono ?_; rintro e w' ⟨rfl, rfl⟩
        go_wp2_with fail
        refine (norm_any _ _ ⟨by omega, by omega⟩).mono ?_; rintro e w' ⟨rfl, rfl⟩
        go_wp2
        go_ret2
        exact ⟨ret_mean _ _ _ HG.out, _, rfl⟩
theorem meanOf_nil (z : Nat → Int) (x : Option Addr) (cap : Nat) (w : World) :
    Calls Try.prog 17 #[.slice x 0 cap] w fun e w' => e = .returned (.tuple #[.int .i64 (meanF z 0).1, .bool (meanF z 0).2]) ∧ ∃ n, w' = w.drewN n := by
  rw [meanF_zero]
  go_enter Try.func17, Try.ntmps17
  go_wp2
  go_ret2
  exact ⟨rfl, 0, rfl⟩

theorem meanOf_long (z : Nat → Int) (x : Option Addr) (len cap : Nat) (w : World) (h : 4000 < len) :
    Calls Try.prog 17 #[.slice x len cap] w fun e w' => e = .returned (.tuple #[.int .i64 (meanF z len).1, .bool (meanF z len).2]) ∧ ∃ n, w' = w.drewN n := by
  rw [meanF_long z len h]
  have h0 : ((len : Int) == 0) = false := by simp; omega
  go_enter Try.func17, Try.ntmps17
  go_wp2
  go_ret2
  exact ⟨rfl, 0, rfl⟩

theorem meanOf_some (z : Nat → Int) (b off len cap : Nat) (w : World) (h0 : 1 ≤ len) (h1 : len ≤ 4000)
    (hc : ∀ j, j < len → w.cell? ⟨b, off + j, none⟩ = some (.int .i64 (z j))) (hz : ∀ j, j < len → In64 (z j)) :
    Calls Try.prog 17 #[.slice (some ⟨b, off, none⟩) len cap] w fun e w' => e = .returned (.tuple #[.int .i64 (meanF z len).1, .bool (meanF z len).2]) ∧ ∃ n, w' = w.drewN n := by
  have hl0 : ((len : Int) == 0) = false := by simp; omega
  have hc0 := hc 0 (by omega)
  rw [Nat.add_zero] at hc0
  have hz0 := hz 0 (by omega)
  have HC := Lib.hid hc
  have HZ := Lib.hid hz
  clear hc hz
  go_enter Try.func17, Try.ntmps17
  go_wp2
  go_loopw [5, 6] (fun s i wr => ∃ k n : Nat, k ≤ len ∧ i = .int .i64 k ∧ s = .int .i64 (sumTo z k) ∧ wr = w.drewN n ∧ Hid (okTo z k)) (fun _ i _ => len - (intOf i).toNat)
  case atStart => exact ⟨0, 0, Nat.zero_le _, rfl, rfl, rfl, fun k h => absurd h (Nat.not_lt_zero _)⟩
  case round =>
    obtain ⟨k, n, hk, rfl, rfl, hw, hok⟩ := hrel
    by_cases hlt : k < len
    · have hck : wr.cell? ⟨b, off + k, none⟩ = some (.int .i64 (z k)) := by rw [hw]; simpa using HC.out k hlt
      have hc0 : wr.cell? ⟨b, off, none⟩ = some (.int .i64 (z 0)) := by rw [hw]; simpa using hc0
      have HW := Lib.hid hw
      clear hw
      have hzk := HZ.out k hlt
      have b1 := nrm_bd (z k)
      have b2 := nrm_bd (z 0)
      have b3 := sumTo_bd z k
      have b4 : -648000000000 ≤ sgn (nrm (z k) - nrm (z 0)) ∧ sgn (nrm (z k) - nrm (z 0)) ≤ 648000000000 := dd_bd z k
      go_wp2
      go_quiet (first
        | (go_at_call 13; exact Calls.quiet_of_same (normOf_q _ _ hzk))
        | (go_at_call 13; exact Calls.quiet_of_same (normOf_q _ _ hz0))
        | (go_at_call 14; exact Calls.quiet_of_same (signedOf_q _ _ ⟨by omega, by omega⟩)))
      by_cases g1 : 1296000000000 ≤ 4 * sgn (nrm (z k) - nrm (z 0))
      · go_wp2
        go_ret2
        refine ⟨ret_mean _ _ _ (meanF_bad z len k hlt (by unfold dd; omega)), ?_⟩
        rw [HW.out, World.drewN_drewN]
        exact ⟨_, rfl⟩
      · by_cases g2 : 4 * sgn (nrm (z k) - nrm (z 0)) ≤ -1296000000000
        · go_wp2
          go_ret2
          refine ⟨ret_mean _ _ _ (meanF_bad z len k hlt (by unfold dd; omega)), ?_⟩
          rw [HW.out, World.drewN_drewN]
          exact ⟨_, rfl⟩
        · go_wp2
          go_roundw
          case rel =>
            refine ⟨k + 1, n + nq, by omega, by go_num, rfl, by rw [HW.out, World.drewN_drewN], ?_⟩
            intro j hj
            by_cases e : j = k
            · subst e; unfold dd; omega
            · exact hok j (by omega)
          case measure => simp [intOf]; omega
    · have e : k = len := by omega
      have b3 := sumTo_bd z k
      rw [e] at b3 hok ⊢
      have b2 := nrm_bd (z 0)
      have b3' : -2592000000000000 ≤ sumTo z len ∧ sumTo z len ≤ 2592000000000000 := by omega
      have q1 := tdiv_bd (sumTo z len) len (by omega) 2592000000000000 (by omega) b3'
      have q2 := tdiv_mul_bd (sumTo z len) len (by omega) 2592000000000000 (by omega) b3'
      have hg := meanF_good z len h0 h1 hok
      have hlt' : ¬ ((len : Int) < len) := by omega
      by_cases hd : sumTo z len < (sumTo z len).tdiv len * len
      · have hq := floor_down _ _ (by omega : (1 : Int) ≤ len) hd
        have hq2 : ((sumTo z len).tdiv len - 1) * len ≤ sumTo z len := by
          rw [← hq]; exact Int.ediv_mul_le _ (by omega)
        have hq3 : -2592000000004000 ≤ ((sumTo z len).tdiv len - 1) * len := by
          rw [Int.sub_mul]; omega
        rw [hq] at hg
        have HG := Lib.hid hg
        clear e hg hlt hk hq
        go_wp2
        refine wp_loop_rounds 2 ?_
        rw [rounds_succ]
        go_wp2
        rw [rounds_succ]
        go_wp2_with fail
        refine (normOf_any _ _ hz0).mono ?_; rintro e w' ⟨rfl, rfl⟩
        go_wp2_with fail
        refine (normOf_any _ _ ⟨by omega, by omega⟩).mono ?_; rintro e w' ⟨rfl, rfl⟩
        go_wp2
        go_ret2
        exact ⟨ret_mean _ _ _ HG.out, _, rfl⟩
      · rw [floor_same _ _ (by omega) (by omega)] at hg
        have HG := Lib.hid hg
        clear e hg hlt hk
        go_wp2
        refine wp_loop_rounds 1 ?_
        rw [rounds_succ]
        go_wp2_with fail
        refine (normOf_any _ _ hz0).mono ?_; rintro e w' ⟨rfl, rfl⟩
        go_wp2_with fail
        refine (normOf_any _ _ ⟨by omega, by omega⟩).mono ?_; rintro e w' ⟨rfl, rfl⟩
        go_wp2
        go_ret2
        exact ⟨ret_mean _ _ _ HG.out, _, rfl⟩

/-- A slice of ints that is empty, or leads to a row of cells. -/
def RowIn (w : World) (a : Option Addr) (len : Nat) (z : Nat → Int) : Prop :=
  len = 0 ∨ ∃ b off, a = some ⟨b, off, none⟩ ∧ ∀ j, j < len → w.cell? ⟨b, off + j, none⟩ = some (.int .i64 (z j)) ∧ In64 (z j)

theorem RowIn.below {w w' : World} {a : Option Addr} {len : Nat} {z : Nat → Int} (h : RowIn w a len z) (hb : Below w.heap.size w w') : RowIn w' a len z := by
  rcases h with h | ⟨b, off, e, hc⟩
  · exact Or.inl h
  · refine Or.inr ⟨b, off, e, fun j hj => ⟨?_, (hc j hj).2⟩⟩
    have h1 := (hc j hj).1
    have hlt : b < w.heap.size := by
      rcases Nat.lt_or_ge b w.heap.size with g | g
      · exact g
      · simp [World.cell?, Array.getElem?_eq_none g] at h1
    rw [hb.cell (p := ⟨b, off + j, none⟩) hlt]
    exact h1

theorem mean_row (z : Nat → Int) (a : Option Addr) (len cap : Nat) (w : World) (h : RowIn w a len z) :
    Calls Try.prog 16 #[.slice a len cap] w fun e w' => e = .returned (.tuple #[.int .i64 (meanF z len).1, .bool (meanF z len).2]) ∧ ∃ n, w' = w.drewN n := by
  by_cases h0 : len = 0
  · subst h0; exact mean_nil z a cap w
  · by_cases h1 : 4000 < len
    · exact mean_long z a len cap w h1
    · rcases h with h | ⟨b, off, rfl, hc⟩
      · exact absurd h h0
      · exact mean_some z b off len cap w (by omega) (by omega) (fun j hj => (hc j hj).1) (fun j hj => (hc j hj).2)

theorem meanOf_row (z : Nat → Int) (a : Option Addr) (len cap : Nat) (w : World) (h : RowIn w a len z) :
    Calls Try.prog 17 #[.slice a len cap] w fun e w' => e = .returned (.tuple #[.int .i64 (meanF z len).1, .bool (meanF z len).2]) ∧ ∃ n, w' = w.drewN n := by
  by_cases h0 : len = 0
  · subst h0; exact meanOf_nil z a cap w
  · by_cases h1 : 4000 < len
    · exact meanOf_long z a len cap w h1
    · rcases h with h | ⟨b, off, rfl, hc⟩
      · exact absurd h h0
      · exact meanOf_some z b off len cap w (by omega) (by omega) (fun j hj => (hc j hj).1) (fun j hj => (hc j hj).2)

def z2 : Nat → Int | 0 => -1 | _ => 4
theorem mean2 : meanF z2 2 = (1, true) := by
  rw [meanF_good z2 2 (by omega) (by omega)]
  · rfl
  · intro k hk
    match k, hk with
    | 0, _ => exact ⟨by decide, by decide⟩
    | 1, _ => exact ⟨by decide, by decide⟩

theorem below_drewN {B : Nat} {w w' : World} (h : Below B w w') (n : Nat) : Below B w (w'.drewN n) := by
  induction n with
  | zero => exact h
  | succ n ih => exact ih.drew
end Go.Proofs.Ytlhfmeekbijhgaa
