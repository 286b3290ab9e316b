/- digits of package arc: a number with noughts ahead. -/
import Derived.Test.YtpkifhmnibepiaaDoorFmtU
namespace Go.Proofs.YtpkifhmnibepiaaDoor
open Go.RowKit

theorem nDigits_le20 (u : Nat) (h : u < 18446744073709551616) : Lib.nDigits u ≤ 20 := by
  rcases Nat.eq_zero_or_pos u with e | e
  · rw [e, Lib.nDigits_small (by decide)]; decide
  · have := Lib.numDigits_eq u e h
    split at this <;> omega
theorem repeat0 (c : Nat) : Lib.repeatL [48] c = List.replicate c 48 := by
  have h := Lib.repeatL_replicate 48 1 c
  simpa using h

set_option maxHeartbeats 1000000 in
theorem arcDigits_any (n w : Nat) (hn : n < 18446744073709551616) (hw : w ≤ 6) (W : World) (ht : Pow10 W) :
    Calls Tryd.prog 71 #[.int .u64 n, .int .i64 w] W fun e w' => e = .returned (.string (bs (padL w n))) ∧ Below W.heap.size W w' := by
  have h20 := nDigits_le20 n hn
  have h1 := Lib.nDigits_pos n
  have hs : (bs (Lib.decDigits n)).size = Lib.nDigits n := by rw [bs_size, Lib.decDigits_length]
  have HF := Lib.hid (fun W h => formatUint_any n hn W h)
  have HT := Lib.hid ht
  have HR := Lib.hid (fun c W h1 h2 => Tryd.strings_Repeat { data := #[48] } c W h1 h2)
  have HP : Hid (∀ c, c = w - (bs (Lib.decDigits n)).size → bs (padL w n) = ⟨(Lib.repeatL [48] c).toArray⟩ ++ bs (Lib.decDigits n)) := Lib.hid (fun c hc => by
    rw [repeat0, ← bs, bs_append, hc, bs_size]; rfl)
  clear ht
  generalize bs (Lib.decDigits n) = s at *
  generalize bs (padL w n) = r at *
  have hs1 : 1 ≤ s.size := by omega
  have hs2 : s.size ≤ 20 := by omega
  have one : (({ data := #[48] } : ByteArray)).size = 1 := rfl
  clear hs h20 h1
  have e : ((w - s.size : Nat) : Int) = max 0 ((w : Int) - s.size) := by omega
  have HR1 := Lib.hid (fun W => HR.out (w - s.size) W (by omega) (by rw [one]; omega))
  rw [e] at HR1
  have HP1 := Lib.hid (HP.out _ rfl)
  have hR : (⟨(Lib.repeatL [48] (w - s.size)).toArray⟩ : ByteArray).size ≤ 6 := by rw [repeat0, ← bs, bs_size, List.length_replicate]; omega
  clear e HR HP one
  generalize (⟨(Lib.repeatL [48] (w - s.size)).toArray⟩ : ByteArray) = R at *
  go_enter Tryd.func71, Tryd.ntmps71
  go_wp2_with fail
  refine (HF.out _ HT.out).mono ?_; rintro e w1 ⟨rfl, hb1⟩
  have HB := Lib.hid hb1
  clear hb1
  go_wp2_with fail
  refine (HR1.out _).mono ?_; rintro e w2 ⟨rfl, hb2⟩
  have HB2 := Lib.hid (below_step HB.out hb2)
  clear hb2
  go_wp2
  go_ret
  exact ⟨by rw [HP1.out]; rfl, HB2.out⟩
theorem padL_len20 (w n : Nat) (hn : n < 18446744073709551616) (hw : w ≤ 6) : (bs (padL w n)).size ≤ 26 := by
  have := nDigits_le20 n hn
  rw [bs_size]
  unfold padL
  rw [List.length_append, List.length_replicate, Lib.decDigits_length]
  omega
/-- The same, as the walks take it. -/
theorem arcDigits_int (x : Int) (w : Nat) (h0 : 0 ≤ x) (h1 : x < 18446744073709551616) (hw : w ≤ 6) (W : World) (ht : Pow10 W) :
    Calls Tryd.prog 71 #[.int .u64 x, .int .i64 w] W fun e w' => ∃ d : ByteArray, e = .returned (.string d) ∧ d.size ≤ 26 ∧ Hid (d = bs (padL w x.toNat)) ∧ Below W.heap.size W w' := by
  have e : ((x.toNat : Nat) : Int) = x := by omega
  have h := arcDigits_any x.toNat w (by omega) hw W ht
  rw [e] at h
  exact h.mono fun e w' ⟨he, hb⟩ => ⟨_, he, padL_len20 w _ (by omega) hw, Lib.hid rfl, hb⟩
end Go.Proofs.YtpkifhmnibepiaaDoor
