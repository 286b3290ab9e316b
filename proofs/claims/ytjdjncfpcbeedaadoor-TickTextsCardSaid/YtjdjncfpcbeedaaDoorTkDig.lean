/- digits of package tick: a number with noughts ahead. -/
import Derived.Test.YtjdjncfpcbeedaaDoorPow10
namespace Go.Proofs.YtjdjncfpcbeedaaDoor
open Go.RowKit

theorem itoaB (n : Nat) (hn : n < 9223372036854775808) (W : World) (ht : Pow10 W) :
    Calls Tryd.prog 82 #[.int .i64 n] W fun e w' => e = .returned (.string (bs (Lib.decDigits n))) ∧ Below W.heap.size W w' := by
  refine (Tryd.strconv_Itoa n (by omega) (by omega) W ht).mono ?_
  rintro e w' ⟨he, k, os, rfl⟩
  refine ⟨?_, Lib.below_grow W.heap.size W (Nat.le_refl _) k os⟩
  rw [he]
  have : Lib.itoa (n : Int) = Lib.decDigits n := by simp [Lib.itoa]
  rw [this]; rfl
set_option maxHeartbeats 1000000 in
theorem tkDigits_any (n w : Nat) (hw1 : 1 ≤ w) (hw : w ≤ 6) (hn : n < 10 ^ w) (W : World) (ht : Pow10 W) :
    Calls Tryd.prog 51 #[.int .i64 n, .int .i64 w] W fun e w' => e = .returned (.string (bs (wideL w n))) ∧ Below W.heap.size W w' := by
  have hn6 : n < 1000000 := Nat.lt_of_lt_of_le hn (Nat.pow_le_pow_right (by decide) hw : 10 ^ w ≤ 10 ^ 6)
  have h20 := nDigits_le20 n (by omega)
  have h1 := Lib.nDigits_pos n
  have hs : (bs (Lib.decDigits n)).size = Lib.nDigits n := by rw [bs_size, Lib.decDigits_length]
  have HF := Lib.hid (fun W h => itoaB n (by omega) W h)
  have HT := Lib.hid ht
  have HR := Lib.hid (fun c W h1 h2 => Tryd.strings_Repeat { data := #[48] } c W h1 h2)
  have HP : Hid (∀ c, c = w - (bs (Lib.decDigits n)).size → bs (wideL w n) = ⟨(Lib.repeatL [48] c).toArray⟩ ++ bs (Lib.decDigits n)) := Lib.hid (fun c hc => by
    obtain ⟨v, rfl⟩ : ∃ v, w = v + 1 := ⟨w - 1, by omega⟩
    rw [← padL_wide v n hn, repeat0, ← bs, bs_append, hc, bs_size]; rfl)
  clear ht hn hn6
  generalize bs (Lib.decDigits n) = s at *
  generalize bs (wideL w n) = r at *
  have hs1 : 1 ≤ s.size := by omega
  have hs2 : s.size ≤ 20 := by omega
  have one : (({ data := #[48] } : ByteArray)).size = 1 := rfl
  clear hs h20 h1
  have e : ((w - s.size : Nat) : Int) = max 0 ((w : Int) - s.size) := by omega
  have HR1 := Lib.hid (fun W => HR.out (w - s.size) W (by omega) (by rw [one]; omega))
  rw [e] at HR1
  have HP1 := Lib.hid (HP.out _ rfl)
  have hR : (⟨(Lib.repeatL [48] (w - s.size)).toArray⟩ : ByteArray).size ≤ 6 := by rw [repeat0, ← bs, bs_size, List.length_replicate]; omega
  clear e HR HP one
  generalize (⟨(Lib.repeatL [48] (w - s.size)).toArray⟩ : ByteArray) = R at *
  go_enter Tryd.func51, Tryd.ntmps51
  go_wp2_with fail
  refine (HF.out _ HT.out).mono ?_; rintro e w1 ⟨rfl, hb1⟩
  have HB := Lib.hid hb1
  clear hb1
  go_wp2_with fail
  refine (HR1.out _).mono ?_; rintro e w2 ⟨rfl, hb2⟩
  have HB2 := Lib.hid (below_step HB.out hb2)
  clear hb2
  go_wp2
  go_ret
  exact ⟨by rw [HP1.out]; rfl, HB2.out⟩
/-- The same, as the walks take it. -/
theorem tkDigits_int (x : Int) (w : Nat) (h0 : 0 ≤ x) (hw1 : 1 ≤ w) (hw : w ≤ 6) (h1 : x.toNat < 10 ^ w) (W : World) (ht : Pow10 W) :
    Calls Tryd.prog 51 #[.int .i64 x, .int .i64 w] W fun e w' => ∃ d : ByteArray, e = .returned (.string d) ∧ d.size = w ∧ Hid (d = bs (wideL w x.toNat)) ∧ Below W.heap.size W w' := by
  have e : ((x.toNat : Nat) : Int) = x := by omega
  have h := tkDigits_any x.toNat w hw1 hw h1 W ht
  rw [e] at h
  exact h.mono fun e w' ⟨he, hb⟩ => ⟨_, he, by rw [bs_size, wideL_length], Lib.hid rfl, hb⟩
end Go.Proofs.YtjdjncfpcbeedaaDoor
