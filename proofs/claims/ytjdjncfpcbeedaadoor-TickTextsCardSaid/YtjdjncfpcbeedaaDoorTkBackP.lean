/- A stamp's text, read back: plain laws. -/
import Derived.Test.YtjdjncfpcbeedaaDoorTkReadP
namespace Go.Proofs.YtjdjncfpcbeedaaDoor
open Go.RowKit

theorem bt_bsT (l : List UInt8) (i : Nat) : bt (bs l) i = (l.getD i 0).toNat := by
  unfold bt bs
  simp [ByteArray.get!]
  rfl
def dg (x : Nat) : UInt8 := UInt8.ofNat (48 + x % 10)
theorem dg_nat (x : Nat) : (dg x).toNat = 48 + x % 10 := by unfold dg; simp; omega
theorem stL_list (y m d mi r : Nat) : stL y m d mi r = [dg (y / 10 / 10 / 10), dg (y / 10 / 10), dg (y / 10), dg y, 45, dg (m / 10), dg m, 45, dg (d / 10), dg d, 84, dg (mi / 60 / 10), dg (mi / 60), 58, dg (mi % 60 / 10), dg (mi % 60), 58, dg (r / 1000000 / 10), dg (r / 1000000), 46, dg (r % 1000000 / 10 / 10 / 10 / 10 / 10), dg (r % 1000000 / 10 / 10 / 10 / 10), dg (r % 1000000 / 10 / 10 / 10), dg (r % 1000000 / 10 / 10), dg (r % 1000000 / 10), dg (r % 1000000), 90] := by
  unfold stL
  simp only [wideL, dg, List.nil_append, List.cons_append, List.append_assoc]
theorem st_size (y m d mi r : Nat) : (bs (stL y m d mi r)).size = 27 := by rw [bs_size, stL_list]; rfl
theorem st_good (y m d mi r : Nat) : ∀ i, i < 27 → goodAt (bs (stL y m d mi r)) i := by
  intro i hi
  refine ⟨by rw [st_size]; exact hi, ?_⟩
  rw [bt_bsT, stL_list]
  have h : ∀ x, 48 ≤ (dg x).toNat ∧ (dg x).toNat ≤ 57 := fun x => by rw [dg_nat]; omega
  rcases i with _ | _ | _ | _ | _ | _ | _ | _ | _ | _ | _ | _ | _ | _ | _ | _ | _ | _ | _ | _ | _ | _ | _ | _ | _ | _ | _ | i
  all_goals first
    | omega
    | exact Or.inl ⟨rfl, h _⟩
    | exact Or.inr ⟨rfl, rfl⟩
set_option maxHeartbeats 4000000 in
theorem st_vals (y m d mi r : Nat) (hy : y < 10000) (hm : m < 100) (hd : d < 100) (hmi : mi < 6000) (hr : r < 100000000) : nst (bs (stL y m d mi r)) 27 0 = y ∧ nst (bs (stL y m d mi r)) 27 1 = m ∧ nst (bs (stL y m d mi r)) 27 2 = d ∧ nst (bs (stL y m d mi r)) 27 3 = mi / 60 ∧ nst (bs (stL y m d mi r)) 27 4 = mi % 60 ∧ nst (bs (stL y m d mi r)) 27 5 = r / 1000000 ∧ nst (bs (stL y m d mi r)) 27 6 = r % 1000000 := by
  have b0 : bt (bs (stL y m d mi r)) 0 - 48 = (y / 10 / 10 / 10) % 10 := by rw [bt_bsT, stL_list]; show (dg (y / 10 / 10 / 10)).toNat - 48 = _; rw [dg_nat]; omega
  have b1 : bt (bs (stL y m d mi r)) 1 - 48 = (y / 10 / 10) % 10 := by rw [bt_bsT, stL_list]; show (dg (y / 10 / 10)).toNat - 48 = _; rw [dg_nat]; omega
  have b2 : bt (bs (stL y m d mi r)) 2 - 48 = (y / 10) % 10 := by rw [bt_bsT, stL_list]; show (dg (y / 10)).toNat - 48 = _; rw [dg_nat]; omega
  have b3 : bt (bs (stL y m d mi r)) 3 - 48 = (y) % 10 := by rw [bt_bsT, stL_list]; show (dg (y)).toNat - 48 = _; rw [dg_nat]; omega
  have b5 : bt (bs (stL y m d mi r)) 5 - 48 = (m / 10) % 10 := by rw [bt_bsT, stL_list]; show (dg (m / 10)).toNat - 48 = _; rw [dg_nat]; omega
  have b6 : bt (bs (stL y m d mi r)) 6 - 48 = (m) % 10 := by rw [bt_bsT, stL_list]; show (dg (m)).toNat - 48 = _; rw [dg_nat]; omega
  have b8 : bt (bs (stL y m d mi r)) 8 - 48 = (d / 10) % 10 := by rw [bt_bsT, stL_list]; show (dg (d / 10)).toNat - 48 = _; rw [dg_nat]; omega
  have b9 : bt (bs (stL y m d mi r)) 9 - 48 = (d) % 10 := by rw [bt_bsT, stL_list]; show (dg (d)).toNat - 48 = _; rw [dg_nat]; omega
  have b11 : bt (bs (stL y m d mi r)) 11 - 48 = (mi / 60 / 10) % 10 := by rw [bt_bsT, stL_list]; show (dg (mi / 60 / 10)).toNat - 48 = _; rw [dg_nat]; omega
  have b12 : bt (bs (stL y m d mi r)) 12 - 48 = (mi / 60) % 10 := by rw [bt_bsT, stL_list]; show (dg (mi / 60)).toNat - 48 = _; rw [dg_nat]; omega
  have b14 : bt (bs (stL y m d mi r)) 14 - 48 = (mi % 60 / 10) % 10 := by rw [bt_bsT, stL_list]; show (dg (mi % 60 / 10)).toNat - 48 = _; rw [dg_nat]; omega
  have b15 : bt (bs (stL y m d mi r)) 15 - 48 = (mi % 60) % 10 := by rw [bt_bsT, stL_list]; show (dg (mi % 60)).toNat - 48 = _; rw [dg_nat]; omega
  have b17 : bt (bs (stL y m d mi r)) 17 - 48 = (r / 1000000 / 10) % 10 := by rw [bt_bsT, stL_list]; show (dg (r / 1000000 / 10)).toNat - 48 = _; rw [dg_nat]; omega
  have b18 : bt (bs (stL y m d mi r)) 18 - 48 = (r / 1000000) % 10 := by rw [bt_bsT, stL_list]; show (dg (r / 1000000)).toNat - 48 = _; rw [dg_nat]; omega
  have b20 : bt (bs (stL y m d mi r)) 20 - 48 = (r % 1000000 / 10 / 10 / 10 / 10 / 10) % 10 := by rw [bt_bsT, stL_list]; show (dg (r % 1000000 / 10 / 10 / 10 / 10 / 10)).toNat - 48 = _; rw [dg_nat]; omega
  have b21 : bt (bs (stL y m d mi r)) 21 - 48 = (r % 1000000 / 10 / 10 / 10 / 10) % 10 := by rw [bt_bsT, stL_list]; show (dg (r % 1000000 / 10 / 10 / 10 / 10)).toNat - 48 = _; rw [dg_nat]; omega
  have b22 : bt (bs (stL y m d mi r)) 22 - 48 = (r % 1000000 / 10 / 10 / 10) % 10 := by rw [bt_bsT, stL_list]; show (dg (r % 1000000 / 10 / 10 / 10)).toNat - 48 = _; rw [dg_nat]; omega
  have b23 : bt (bs (stL y m d mi r)) 23 - 48 = (r % 1000000 / 10 / 10) % 10 := by rw [bt_bsT, stL_list]; show (dg (r % 1000000 / 10 / 10)).toNat - 48 = _; rw [dg_nat]; omega
  have b24 : bt (bs (stL y m d mi r)) 24 - 48 = (r % 1000000 / 10) % 10 := by rw [bt_bsT, stL_list]; show (dg (r % 1000000 / 10)).toNat - 48 = _; rw [dg_nat]; omega
  have b25 : bt (bs (stL y m d mi r)) 25 - 48 = (r % 1000000) % 10 := by rw [bt_bsT, stL_list]; show (dg (r % 1000000)).toNat - 48 = _; rw [dg_nat]; omega
  generalize bs (stL y m d mi r) = s at *
  have a0_0 : nst s 0 0 = 0 := rfl
  have a0_1 : nst s 0 1 = 0 := rfl
  have a0_2 : nst s 0 2 = 0 := rfl
  have a0_3 : nst s 0 3 = 0 := rfl
  have a0_4 : nst s 0 4 = 0 := rfl
  have a0_5 : nst s 0 5 = 0 := rfl
  have a0_6 : nst s 0 6 = 0 := rfl
  have a1_0 : nst s 1 0 = nst s 0 0 * 10 + (y / 10 / 10 / 10) % 10 := by rw [nst_d (i := 0) rfl, show sep 0 = 0 from rfl, upN_at, b0]
  have a1_1 : nst s 1 1 = nst s 0 1 := by rw [nst_d (i := 0) rfl, show sep 0 = 0 from rfl, upN_ne _ _ (by decide)]
  have a1_2 : nst s 1 2 = nst s 0 2 := by rw [nst_d (i := 0) rfl, show sep 0 = 0 from rfl, upN_ne _ _ (by decide)]
  have a1_3 : nst s 1 3 = nst s 0 3 := by rw [nst_d (i := 0) rfl, show sep 0 = 0 from rfl, upN_ne _ _ (by decide)]
  have a1_4 : nst s 1 4 = nst s 0 4 := by rw [nst_d (i := 0) rfl, show sep 0 = 0 from rfl, upN_ne _ _ (by decide)]
  have a1_5 : nst s 1 5 = nst s 0 5 := by rw [nst_d (i := 0) rfl, show sep 0 = 0 from rfl, upN_ne _ _ (by decide)]
  have a1_6 : nst s 1 6 = nst s 0 6 := by rw [nst_d (i := 0) rfl, show sep 0 = 0 from rfl, upN_ne _ _ (by decide)]
  have a2_0 : nst s 2 0 = nst s 1 0 * 10 + (y / 10 / 10) % 10 := by rw [nst_d (i := 1) rfl, show sep 1 = 0 from rfl, upN_at, b1]
  have a2_1 : nst s 2 1 = nst s 1 1 := by rw [nst_d (i := 1) rfl, show sep 1 = 0 from rfl, upN_ne _ _ (by decide)]
  have a2_2 : nst s 2 2 = nst s 1 2 := by rw [nst_d (i := 1) rfl, show sep 1 = 0 from rfl, upN_ne _ _ (by decide)]
  have a2_3 : nst s 2 3 = nst s 1 3 := by rw [nst_d (i := 1) rfl, show sep 1 = 0 from rfl, upN_ne _ _ (by decide)]
  have a2_4 : nst s 2 4 = nst s 1 4 := by rw [nst_d (i := 1) rfl, show sep 1 = 0 from rfl, upN_ne _ _ (by decide)]
  have a2_5 : nst s 2 5 = nst s 1 5 := by rw [nst_d (i := 1) rfl, show sep 1 = 0 from rfl, upN_ne _ _ (by decide)]
  have a2_6 : nst s 2 6 = nst s 1 6 := by rw [nst_d (i := 1) rfl, show sep 1 = 0 from rfl, upN_ne _ _ (by decide)]
  have a3_0 : nst s 3 0 = nst s 2 0 * 10 + (y / 10) % 10 := by rw [nst_d (i := 2) rfl, show sep 2 = 0 from rfl, upN_at, b2]
  have a3_1 : nst s 3 1 = nst s 2 1 := by rw [nst_d (i := 2) rfl, show sep 2 = 0 from rfl, upN_ne _ _ (by decide)]
  have a3_2 : nst s 3 2 = nst s 2 2 := by rw [nst_d (i := 2) rfl, show sep 2 = 0 from rfl, upN_ne _ _ (by decide)]
  have a3_3 : nst s 3 3 = nst s 2 3 := by rw [nst_d (i := 2) rfl, show sep 2 = 0 from rfl, upN_ne _ _ (by decide)]
  have a3_4 : nst s 3 4 = nst s 2 4 := by rw [nst_d (i := 2) rfl, show sep 2 = 0 from rfl, upN_ne _ _ (by decide)]
  have a3_5 : nst s 3 5 = nst s 2 5 := by rw [nst_d (i := 2) rfl, show sep 2 = 0 from rfl, upN_ne _ _ (by decide)]
  have a3_6 : nst s 3 6 = nst s 2 6 := by rw [nst_d (i := 2) rfl, show sep 2 = 0 from rfl, upN_ne _ _ (by decide)]
  have a4_0 : nst s 4 0 = nst s 3 0 * 10 + (y) % 10 := by rw [nst_d (i := 3) rfl, show sep 3 = 0 from rfl, upN_at, b3]
  have a4_1 : nst s 4 1 = nst s 3 1 := by rw [nst_d (i := 3) rfl, show sep 3 = 0 from rfl, upN_ne _ _ (by decide)]
  have a4_2 : nst s 4 2 = nst s 3 2 := by rw [nst_d (i := 3) rfl, show sep 3 = 0 from rfl, upN_ne _ _ (by decide)]
  have a4_3 : nst s 4 3 = nst s 3 3 := by rw [nst_d (i := 3) rfl, show sep 3 = 0 from rfl, upN_ne _ _ (by decide)]
  have a4_4 : nst s 4 4 = nst s 3 4 := by rw [nst_d (i := 3) rfl, show sep 3 = 0 from rfl, upN_ne _ _ (by decide)]
  have a4_5 : nst s 4 5 = nst s 3 5 := by rw [nst_d (i := 3) rfl, show sep 3 = 0 from rfl, upN_ne _ _ (by decide)]
  have a4_6 : nst s 4 6 = nst s 3 6 := by rw [nst_d (i := 3) rfl, show sep 3 = 0 from rfl, upN_ne _ _ (by decide)]
  have a5_0 : nst s 5 0 = nst s 4 0 := by rw [nst_s (i := 4) rfl]
  have a5_1 : nst s 5 1 = nst s 4 1 := by rw [nst_s (i := 4) rfl]
  have a5_2 : nst s 5 2 = nst s 4 2 := by rw [nst_s (i := 4) rfl]
  have a5_3 : nst s 5 3 = nst s 4 3 := by rw [nst_s (i := 4) rfl]
  have a5_4 : nst s 5 4 = nst s 4 4 := by rw [nst_s (i := 4) rfl]
  have a5_5 : nst s 5 5 = nst s 4 5 := by rw [nst_s (i := 4) rfl]
  have a5_6 : nst s 5 6 = nst s 4 6 := by rw [nst_s (i := 4) rfl]
  have a6_0 : nst s 6 0 = nst s 5 0 := by rw [nst_d (i := 5) rfl, show sep 5 = 1 from rfl, upN_ne _ _ (by decide)]
  have a6_1 : nst s 6 1 = nst s 5 1 * 10 + (m / 10) % 10 := by rw [nst_d (i := 5) rfl, show sep 5 = 1 from rfl, upN_at, b5]
  have a6_2 : nst s 6 2 = nst s 5 2 := by rw [nst_d (i := 5) rfl, show sep 5 = 1 from rfl, upN_ne _ _ (by decide)]
  have a6_3 : nst s 6 3 = nst s 5 3 := by rw [nst_d (i := 5) rfl, show sep 5 = 1 from rfl, upN_ne _ _ (by decide)]
  have a6_4 : nst s 6 4 = nst s 5 4 := by rw [nst_d (i := 5) rfl, show sep 5 = 1 from rfl, upN_ne _ _ (by decide)]
  have a6_5 : nst s 6 5 = nst s 5 5 := by rw [nst_d (i := 5) rfl, show sep 5 = 1 from rfl, upN_ne _ _ (by decide)]
  have a6_6 : nst s 6 6 = nst s 5 6 := by rw [nst_d (i := 5) rfl, show sep 5 = 1 from rfl, upN_ne _ _ (by decide)]
  have a7_0 : nst s 7 0 = nst s 6 0 := by rw [nst_d (i := 6) rfl, show sep 6 = 1 from rfl, upN_ne _ _ (by decide)]
  have a7_1 : nst s 7 1 = nst s 6 1 * 10 + (m) % 10 := by rw [nst_d (i := 6) rfl, show sep 6 = 1 from rfl, upN_at, b6]
  have a7_2 : nst s 7 2 = nst s 6 2 := by rw [nst_d (i := 6) rfl, show sep 6 = 1 from rfl, upN_ne _ _ (by decide)]
  have a7_3 : nst s 7 3 = nst s 6 3 := by rw [nst_d (i := 6) rfl, show sep 6 = 1 from rfl, upN_ne _ _ (by decide)]
  have a7_4 : nst s 7 4 = nst s 6 4 := by rw [nst_d (i := 6) rfl, show sep 6 = 1 from rfl, upN_ne _ _ (by decide)]
  have a7_5 : nst s 7 5 = nst s 6 5 := by rw [nst_d (i := 6) rfl, show sep 6 = 1 from rfl, upN_ne _ _ (by decide)]
  have a7_6 : nst s 7 6 = nst s 6 6 := by rw [nst_d (i := 6) rfl, show sep 6 = 1 from rfl, upN_ne _ _ (by decide)]
  have a8_0 : nst s 8 0 = nst s 7 0 := by rw [nst_s (i := 7) rfl]
  have a8_1 : nst s 8 1 = nst s 7 1 := by rw [nst_s (i := 7) rfl]
  have a8_2 : nst s 8 2 = nst s 7 2 := by rw [nst_s (i := 7) rfl]
  have a8_3 : nst s 8 3 = nst s 7 3 := by rw [nst_s (i := 7) rfl]
  have a8_4 : nst s 8 4 = nst s 7 4 := by rw [nst_s (i := 7) rfl]
  have a8_5 : nst s 8 5 = nst s 7 5 := by rw [nst_s (i := 7) rfl]
  have a8_6 : nst s 8 6 = nst s 7 6 := by rw [nst_s (i := 7) rfl]
  have a9_0 : nst s 9 0 = nst s 8 0 := by rw [nst_d (i := 8) rfl, show sep 8 = 2 from rfl, upN_ne _ _ (by decide)]
  have a9_1 : nst s 9 1 = nst s 8 1 := by rw [nst_d (i := 8) rfl, show sep 8 = 2 from rfl, upN_ne _ _ (by decide)]
  have a9_2 : nst s 9 2 = nst s 8 2 * 10 + (d / 10) % 10 := by rw [nst_d (i := 8) rfl, show sep 8 = 2 from rfl, upN_at, b8]
  have a9_3 : nst s 9 3 = nst s 8 3 := by rw [nst_d (i := 8) rfl, show sep 8 = 2 from rfl, upN_ne _ _ (by decide)]
  have a9_4 : nst s 9 4 = nst s 8 4 := by rw [nst_d (i := 8) rfl, show sep 8 = 2 from rfl, upN_ne _ _ (by decide)]
  have a9_5 : nst s 9 5 = nst s 8 5 := by rw [nst_d (i := 8) rfl, show sep 8 = 2 from rfl, upN_ne _ _ (by decide)]
  have a9_6 : nst s 9 6 = nst s 8 6 := by rw [nst_d (i := 8) rfl, show sep 8 = 2 from rfl, upN_ne _ _ (by decide)]
  have a10_0 : nst s 10 0 = nst s 9 0 := by rw [nst_d (i := 9) rfl, show sep 9 = 2 from rfl, upN_ne _ _ (by decide)]
  have a10_1 : nst s 10 1 = nst s 9 1 := by rw [nst_d (i := 9) rfl, show sep 9 = 2 from rfl, upN_ne _ _ (by decide)]
  have a10_2 : nst s 10 2 = nst s 9 2 * 10 + (d) % 10 := by rw [nst_d (i := 9) rfl, show sep 9 = 2 from rfl, upN_at, b9]
  have a10_3 : nst s 10 3 = nst s 9 3 := by rw [nst_d (i := 9) rfl, show sep 9 = 2 from rfl, upN_ne _ _ (by decide)]
  have a10_4 : nst s 10 4 = nst s 9 4 := by rw [nst_d (i := 9) rfl, show sep 9 = 2 from rfl, upN_ne _ _ (by decide)]
  have a10_5 : nst s 10 5 = nst s 9 5 := by rw [nst_d (i := 9) rfl, show sep 9 = 2 from rfl, upN_ne _ _ (by decide)]
  have a10_6 : nst s 10 6 = nst s 9 6 := by rw [nst_d (i := 9) rfl, show sep 9 = 2 from rfl, upN_ne _ _ (by decide)]
  have a11_0 : nst s 11 0 = nst s 10 0 := by rw [nst_s (i := 10) rfl]
  have a11_1 : nst s 11 1 = nst s 10 1 := by rw [nst_s (i := 10) rfl]
  have a11_2 : nst s 11 2 = nst s 10 2 := by rw [nst_s (i := 10) rfl]
  have a11_3 : nst s 11 3 = nst s 10 3 := by rw [nst_s (i := 10) rfl]
  have a11_4 : nst s 11 4 = nst s 10 4 := by rw [nst_s (i := 10) rfl]
  have a11_5 : nst s 11 5 = nst s 10 5 := by rw [nst_s (i := 10) rfl]
  have a11_6 : nst s 11 6 = nst s 10 6 := by rw [nst_s (i := 10) rfl]
  have a12_0 : nst s 12 0 = nst s 11 0 := by rw [nst_d (i := 11) rfl, show sep 11 = 3 from rfl, upN_ne _ _ (by decide)]
  have a12_1 : nst s 12 1 = nst s 11 1 := by rw [nst_d (i := 11) rfl, show sep 11 = 3 from rfl, upN_ne _ _ (by decide)]
  have a12_2 : nst s 12 2 = nst s 11 2 := by rw [nst_d (i := 11) rfl, show sep 11 = 3 from rfl, upN_ne _ _ (by decide)]
  have a12_3 : nst s 12 3 = nst s 11 3 * 10 + (mi / 60 / 10) % 10 := by rw [nst_d (i := 11) rfl, show sep 11 = 3 from rfl, upN_at, b11]
  have a12_4 : nst s 12 4 = nst s 11 4 := by rw [nst_d (i := 11) rfl, show sep 11 = 3 from rfl, upN_ne _ _ (by decide)]
  have a12_5 : nst s 12 5 = nst s 11 5 := by rw [nst_d (i := 11) rfl, show sep 11 = 3 from rfl, upN_ne _ _ (by decide)]
  have a12_6 : nst s 12 6 = nst s 11 6 := by rw [nst_d (i := 11) rfl, show sep 11 = 3 from rfl, upN_ne _ _ (by decide)]
  have a13_0 : nst s 13 0 = nst s 12 0 := by rw [nst_d (i := 12) rfl, show sep 12 = 3 from rfl, upN_ne _ _ (by decide)]
  have a13_1 : nst s 13 1 = nst s 12 1 := by rw [nst_d (i := 12) rfl, show sep 12 = 3 from rfl, upN_ne _ _ (by decide)]
  have a13_2 : nst s 13 2 = nst s 12 2 := by rw [nst_d (i := 12) rfl, show sep 12 = 3 from rfl, upN_ne _ _ (by decide)]
  have a13_3 : nst s 13 3 = nst s 12 3 * 10 + (mi / 60) % 10 := by rw [nst_d (i := 12) rfl, show sep 12 = 3 from rfl, upN_at, b12]
  have a13_4 : nst s 13 4 = nst s 12 4 := by rw [nst_d (i := 12) rfl, show sep 12 = 3 from rfl, upN_ne _ _ (by decide)]
  have a13_5 : nst s 13 5 = nst s 12 5 := by rw [nst_d (i := 12) rfl, show sep 12 = 3 from rfl, upN_ne _ _ (by decide)]
  have a13_6 : nst s 13 6 = nst s 12 6 := by rw [nst_d (i := 12) rfl, show sep 12 = 3 from rfl, upN_ne _ _ (by decide)]
  have a14_0 : nst s 14 0 = nst s 13 0 := by rw [nst_s (i := 13) rfl]
  have a14_1 : nst s 14 1 = nst s 13 1 := by rw [nst_s (i := 13) rfl]
  have a14_2 : nst s 14 2 = nst s 13 2 := by rw [nst_s (i := 13) rfl]
  have a14_3 : nst s 14 3 = nst s 13 3 := by rw [nst_s (i := 13) rfl]
  have a14_4 : nst s 14 4 = nst s 13 4 := by rw [nst_s (i := 13) rfl]
  have a14_5 : nst s 14 5 = nst s 13 5 := by rw [nst_s (i := 13) rfl]
  have a14_6 : nst s 14 6 = nst s 13 6 := by rw [nst_s (i := 13) rfl]
  have a15_0 : nst s 15 0 = nst s 14 0 := by rw [nst_d (i := 14) rfl, show sep 14 = 4 from rfl, upN_ne _ _ (by decide)]
  have a15_1 : nst s 15 1 = nst s 14 1 := by rw [nst_d (i := 14) rfl, show sep 14 = 4 from rfl, upN_ne _ _ (by decide)]
  have a15_2 : nst s 15 2 = nst s 14 2 := by rw [nst_d (i := 14) rfl, show sep 14 = 4 from rfl, upN_ne _ _ (by decide)]
  have a15_3 : nst s 15 3 = nst s 14 3 := by rw [nst_d (i := 14) rfl, show sep 14 = 4 from rfl, upN_ne _ _ (by decide)]
  have a15_4 : nst s 15 4 = nst s 14 4 * 10 + (mi % 60 / 10) % 10 := by rw [nst_d (i := 14) rfl, show sep 14 = 4 from rfl, upN_at, b14]
  have a15_5 : nst s 15 5 = nst s 14 5 := by rw [nst_d (i := 14) rfl, show sep 14 = 4 from rfl, upN_ne _ _ (by decide)]
  have a15_6 : nst s 15 6 = nst s 14 6 := by rw [nst_d (i := 14) rfl, show sep 14 = 4 from rfl, upN_ne _ _ (by decide)]
  have a16_0 : nst s 16 0 = nst s 15 0 := by rw [nst_d (i := 15) rfl, show sep 15 = 4 from rfl, upN_ne _ _ (by decide)]
  have a16_1 : nst s 16 1 = nst s 15 1 := by rw [nst_d (i := 15) rfl, show sep 15 = 4 from rfl, upN_ne _ _ (by decide)]
  have a16_2 : nst s 16 2 = nst s 15 2 := by rw [nst_d (i := 15) rfl, show sep 15 = 4 from rfl, upN_ne _ _ (by decide)]
  have a16_3 : nst s 16 3 = nst s 15 3 := by rw [nst_d (i := 15) rfl, show sep 15 = 4 from rfl, upN_ne _ _ (by decide)]
  have a16_4 : nst s 16 4 = nst s 15 4 * 10 + (mi % 60) % 10 := by rw [nst_d (i := 15) rfl, show sep 15 = 4 from rfl, upN_at, b15]
  have a16_5 : nst s 16 5 = nst s 15 5 := by rw [nst_d (i := 15) rfl, show sep 15 = 4 from rfl, upN_ne _ _ (by decide)]
  have a16_6 : nst s 16 6 = nst s 15 6 := by rw [nst_d (i := 15) rfl, show sep 15 = 4 from rfl, upN_ne _ _ (by decide)]
  have a17_0 : nst s 17 0 = nst s 16 0 := by rw [nst_s (i := 16) rfl]
  have a17_1 : nst s 17 1 = nst s 16 1 := by rw [nst_s (i := 16) rfl]
  have a17_2 : nst s 17 2 = nst s 16 2 := by rw [nst_s (i := 16) rfl]
  have a17_3 : nst s 17 3 = nst s 16 3 := by rw [nst_s (i := 16) rfl]
  have a17_4 : nst s 17 4 = nst s 16 4 := by rw [nst_s (i := 16) rfl]
  have a17_5 : nst s 17 5 = nst s 16 5 := by rw [nst_s (i := 16) rfl]
  have a17_6 : nst s 17 6 = nst s 16 6 := by rw [nst_s (i := 16) rfl]
  have a18_0 : nst s 18 0 = nst s 17 0 := by rw [nst_d (i := 17) rfl, show sep 17 = 5 from rfl, upN_ne _ _ (by decide)]
  have a18_1 : nst s 18 1 = nst s 17 1 := by rw [nst_d (i := 17) rfl, show sep 17 = 5 from rfl, upN_ne _ _ (by decide)]
  have a18_2 : nst s 18 2 = nst s 17 2 := by rw [nst_d (i := 17) rfl, show sep 17 = 5 from rfl, upN_ne _ _ (by decide)]
  have a18_3 : nst s 18 3 = nst s 17 3 := by rw [nst_d (i := 17) rfl, show sep 17 = 5 from rfl, upN_ne _ _ (by decide)]
  have a18_4 : nst s 18 4 = nst s 17 4 := by rw [nst_d (i := 17) rfl, show sep 17 = 5 from rfl, upN_ne _ _ (by decide)]
  have a18_5 : nst s 18 5 = nst s 17 5 * 10 + (r / 1000000 / 10) % 10 := by rw [nst_d (i := 17) rfl, show sep 17 = 5 from rfl, upN_at, b17]
  have a18_6 : nst s 18 6 = nst s 17 6 := by rw [nst_d (i := 17) rfl, show sep 17 = 5 from rfl, upN_ne _ _ (by decide)]
  have a19_0 : nst s 19 0 = nst s 18 0 := by rw [nst_d (i := 18) rfl, show sep 18 = 5 from rfl, upN_ne _ _ (by decide)]
  have a19_1 : nst s 19 1 = nst s 18 1 := by rw [nst_d (i := 18) rfl, show sep 18 = 5 from rfl, upN_ne _ _ (by decide)]
  have a19_2 : nst s 19 2 = nst s 18 2 := by rw [nst_d (i := 18) rfl, show sep 18 = 5 from rfl, upN_ne _ _ (by decide)]
  have a19_3 : nst s 19 3 = nst s 18 3 := by rw [nst_d (i := 18) rfl, show sep 18 = 5 from rfl, upN_ne _ _ (by decide)]
  have a19_4 : nst s 19 4 = nst s 18 4 := by rw [nst_d (i := 18) rfl, show sep 18 = 5 from rfl, upN_ne _ _ (by decide)]
  have a19_5 : nst s 19 5 = nst s 18 5 * 10 + (r / 1000000) % 10 := by rw [nst_d (i := 18) rfl, show sep 18 = 5 from rfl, upN_at, b18]
  have a19_6 : nst s 19 6 = nst s 18 6 := by rw [nst_d (i := 18) rfl, show sep 18 = 5 from rfl, upN_ne _ _ (by decide)]
  have a20_0 : nst s 20 0 = nst s 19 0 := by rw [nst_s (i := 19) rfl]
  have a20_1 : nst s 20 1 = nst s 19 1 := by rw [nst_s (i := 19) rfl]
  have a20_2 : nst s 20 2 = nst s 19 2 := by rw [nst_s (i := 19) rfl]
  have a20_3 : nst s 20 3 = nst s 19 3 := by rw [nst_s (i := 19) rfl]
  have a20_4 : nst s 20 4 = nst s 19 4 := by rw [nst_s (i := 19) rfl]
  have a20_5 : nst s 20 5 = nst s 19 5 := by rw [nst_s (i := 19) rfl]
  have a20_6 : nst s 20 6 = nst s 19 6 := by rw [nst_s (i := 19) rfl]
  have a21_0 : nst s 21 0 = nst s 20 0 := by rw [nst_d (i := 20) rfl, show sep 20 = 6 from rfl, upN_ne _ _ (by decide)]
  have a21_1 : nst s 21 1 = nst s 20 1 := by rw [nst_d (i := 20) rfl, show sep 20 = 6 from rfl, upN_ne _ _ (by decide)]
  have a21_2 : nst s 21 2 = nst s 20 2 := by rw [nst_d (i := 20) rfl, show sep 20 = 6 from rfl, upN_ne _ _ (by decide)]
  have a21_3 : nst s 21 3 = nst s 20 3 := by rw [nst_d (i := 20) rfl, show sep 20 = 6 from rfl, upN_ne _ _ (by decide)]
  have a21_4 : nst s 21 4 = nst s 20 4 := by rw [nst_d (i := 20) rfl, show sep 20 = 6 from rfl, upN_ne _ _ (by decide)]
  have a21_5 : nst s 21 5 = nst s 20 5 := by rw [nst_d (i := 20) rfl, show sep 20 = 6 from rfl, upN_ne _ _ (by decide)]
  have a21_6 : nst s 21 6 = nst s 20 6 * 10 + (r % 1000000 / 10 / 10 / 10 / 10 / 10) % 10 := by rw [nst_d (i := 20) rfl, show sep 20 = 6 from rfl, upN_at, b20]
  have a22_0 : nst s 22 0 = nst s 21 0 := by rw [nst_d (i := 21) rfl, show sep 21 = 6 from rfl, upN_ne _ _ (by decide)]
  have a22_1 : nst s 22 1 = nst s 21 1 := by rw [nst_d (i := 21) rfl, show sep 21 = 6 from rfl, upN_ne _ _ (by decide)]
  have a22_2 : nst s 22 2 = nst s 21 2 := by rw [nst_d (i := 21) rfl, show sep 21 = 6 from rfl, upN_ne _ _ (by decide)]
  have a22_3 : nst s 22 3 = nst s 21 3 := by rw [nst_d (i := 21) rfl, show sep 21 = 6 from rfl, upN_ne _ _ (by decide)]
  have a22_4 : nst s 22 4 = nst s 21 4 := by rw [nst_d (i := 21) rfl, show sep 21 = 6 from rfl, upN_ne _ _ (by decide)]
  have a22_5 : nst s 22 5 = nst s 21 5 := by rw [nst_d (i := 21) rfl, show sep 21 = 6 from rfl, upN_ne _ _ (by decide)]
  have a22_6 : nst s 22 6 = nst s 21 6 * 10 + (r % 1000000 / 10 / 10 / 10 / 10) % 10 := by rw [nst_d (i := 21) rfl, show sep 21 = 6 from rfl, upN_at, b21]
  have a23_0 : nst s 23 0 = nst s 22 0 := by rw [nst_d (i := 22) rfl, show sep 22 = 6 from rfl, upN_ne _ _ (by decide)]
  have a23_1 : nst s 23 1 = nst s 22 1 := by rw [nst_d (i := 22) rfl, show sep 22 = 6 from rfl, upN_ne _ _ (by decide)]
  have a23_2 : nst s 23 2 = nst s 22 2 := by rw [nst_d (i := 22) rfl, show sep 22 = 6 from rfl, upN_ne _ _ (by decide)]
  have a23_3 : nst s 23 3 = nst s 22 3 := by rw [nst_d (i := 22) rfl, show sep 22 = 6 from rfl, upN_ne _ _ (by decide)]
  have a23_4 : nst s 23 4 = nst s 22 4 := by rw [nst_d (i := 22) rfl, show sep 22 = 6 from rfl, upN_ne _ _ (by decide)]
  have a23_5 : nst s 23 5 = nst s 22 5 := by rw [nst_d (i := 22) rfl, show sep 22 = 6 from rfl, upN_ne _ _ (by decide)]
  have a23_6 : nst s 23 6 = nst s 22 6 * 10 + (r % 1000000 / 10 / 10 / 10) % 10 := by rw [nst_d (i := 22) rfl, show sep 22 = 6 from rfl, upN_at, b22]
  have a24_0 : nst s 24 0 = nst s 23 0 := by rw [nst_d (i := 23) rfl, show sep 23 = 6 from rfl, upN_ne _ _ (by decide)]
  have a24_1 : nst s 24 1 = nst s 23 1 := by rw [nst_d (i := 23) rfl, show sep 23 = 6 from rfl, upN_ne _ _ (by decide)]
  have a24_2 : nst s 24 2 = nst s 23 2 := by rw [nst_d (i := 23) rfl, show sep 23 = 6 from rfl, upN_ne _ _ (by decide)]
  have a24_3 : nst s 24 3 = nst s 23 3 := by rw [nst_d (i := 23) rfl, show sep 23 = 6 from rfl, upN_ne _ _ (by decide)]
  have a24_4 : nst s 24 4 = nst s 23 4 := by rw [nst_d (i := 23) rfl, show sep 23 = 6 from rfl, upN_ne _ _ (by decide)]
  have a24_5 : nst s 24 5 = nst s 23 5 := by rw [nst_d (i := 23) rfl, show sep 23 = 6 from rfl, upN_ne _ _ (by decide)]
  have a24_6 : nst s 24 6 = nst s 23 6 * 10 + (r % 1000000 / 10 / 10) % 10 := by rw [nst_d (i := 23) rfl, show sep 23 = 6 from rfl, upN_at, b23]
  have a25_0 : nst s 25 0 = nst s 24 0 := by rw [nst_d (i := 24) rfl, show sep 24 = 6 from rfl, upN_ne _ _ (by decide)]
  have a25_1 : nst s 25 1 = nst s 24 1 := by rw [nst_d (i := 24) rfl, show sep 24 = 6 from rfl, upN_ne _ _ (by decide)]
  have a25_2 : nst s 25 2 = nst s 24 2 := by rw [nst_d (i := 24) rfl, show sep 24 = 6 from rfl, upN_ne _ _ (by decide)]
  have a25_3 : nst s 25 3 = nst s 24 3 := by rw [nst_d (i := 24) rfl, show sep 24 = 6 from rfl, upN_ne _ _ (by decide)]
  have a25_4 : nst s 25 4 = nst s 24 4 := by rw [nst_d (i := 24) rfl, show sep 24 = 6 from rfl, upN_ne _ _ (by decide)]
  have a25_5 : nst s 25 5 = nst s 24 5 := by rw [nst_d (i := 24) rfl, show sep 24 = 6 from rfl, upN_ne _ _ (by decide)]
  have a25_6 : nst s 25 6 = nst s 24 6 * 10 + (r % 1000000 / 10) % 10 := by rw [nst_d (i := 24) rfl, show sep 24 = 6 from rfl, upN_at, b24]
  have a26_0 : nst s 26 0 = nst s 25 0 := by rw [nst_d (i := 25) rfl, show sep 25 = 6 from rfl, upN_ne _ _ (by decide)]
  have a26_1 : nst s 26 1 = nst s 25 1 := by rw [nst_d (i := 25) rfl, show sep 25 = 6 from rfl, upN_ne _ _ (by decide)]
  have a26_2 : nst s 26 2 = nst s 25 2 := by rw [nst_d (i := 25) rfl, show sep 25 = 6 from rfl, upN_ne _ _ (by decide)]
  have a26_3 : nst s 26 3 = nst s 25 3 := by rw [nst_d (i := 25) rfl, show sep 25 = 6 from rfl, upN_ne _ _ (by decide)]
  have a26_4 : nst s 26 4 = nst s 25 4 := by rw [nst_d (i := 25) rfl, show sep 25 = 6 from rfl, upN_ne _ _ (by decide)]
  have a26_5 : nst s 26 5 = nst s 25 5 := by rw [nst_d (i := 25) rfl, show sep 25 = 6 from rfl, upN_ne _ _ (by decide)]
  have a26_6 : nst s 26 6 = nst s 25 6 * 10 + (r % 1000000) % 10 := by rw [nst_d (i := 25) rfl, show sep 25 = 6 from rfl, upN_at, b25]
  have a27_0 : nst s 27 0 = nst s 26 0 := by rw [nst_s (i := 26) rfl]
  have a27_1 : nst s 27 1 = nst s 26 1 := by rw [nst_s (i := 26) rfl]
  have a27_2 : nst s 27 2 = nst s 26 2 := by rw [nst_s (i := 26) rfl]
  have a27_3 : nst s 27 3 = nst s 26 3 := by rw [nst_s (i := 26) rfl]
  have a27_4 : nst s 27 4 = nst s 26 4 := by rw [nst_s (i := 26) rfl]
  have a27_5 : nst s 27 5 = nst s 26 5 := by rw [nst_s (i := 26) rfl]
  have a27_6 : nst s 27 6 = nst s 26 6 := by rw [nst_s (i := 26) rfl]
  have v0 : nst s 27 0 = y := by
    rw [a27_0, a26_0, a25_0, a24_0, a23_0, a22_0, a21_0, a20_0, a19_0, a18_0, a17_0, a16_0, a15_0, a14_0, a13_0, a12_0, a11_0, a10_0, a9_0, a8_0, a7_0, a6_0, a5_0, a4_0, a3_0, a2_0, a1_0, a0_0]
    omega
  have v1 : nst s 27 1 = m := by
    rw [a27_1, a26_1, a25_1, a24_1, a23_1, a22_1, a21_1, a20_1, a19_1, a18_1, a17_1, a16_1, a15_1, a14_1, a13_1, a12_1, a11_1, a10_1, a9_1, a8_1, a7_1, a6_1, a5_1, a4_1, a3_1, a2_1, a1_1, a0_1]
    omega
  have v2 : nst s 27 2 = d := by
    rw [a27_2, a26_2, a25_2, a24_2, a23_2, a22_2, a21_2, a20_2, a19_2, a18_2, a17_2, a16_2, a15_2, a14_2, a13_2, a12_2, a11_2, a10_2, a9_2, a8_2, a7_2, a6_2, a5_2, a4_2, a3_2, a2_2, a1_2, a0_2]
    omega
  have v3 : nst s 27 3 = mi / 60 := by
    rw [a27_3, a26_3, a25_3, a24_3, a23_3, a22_3, a21_3, a20_3, a19_3, a18_3, a17_3, a16_3, a15_3, a14_3, a13_3, a12_3, a11_3, a10_3, a9_3, a8_3, a7_3, a6_3, a5_3, a4_3, a3_3, a2_3, a1_3, a0_3]
    omega
  have v4 : nst s 27 4 = mi % 60 := by
    rw [a27_4, a26_4, a25_4, a24_4, a23_4, a22_4, a21_4, a20_4, a19_4, a18_4, a17_4, a16_4, a15_4, a14_4, a13_4, a12_4, a11_4, a10_4, a9_4, a8_4, a7_4, a6_4, a5_4, a4_4, a3_4, a2_4, a1_4, a0_4]
    omega
  have v5 : nst s 27 5 = r / 1000000 := by
    rw [a27_5, a26_5, a25_5, a24_5, a23_5, a22_5, a21_5, a20_5, a19_5, a18_5, a17_5, a16_5, a15_5, a14_5, a13_5, a12_5, a11_5, a10_5, a9_5, a8_5, a7_5, a6_5, a5_5, a4_5, a3_5, a2_5, a1_5, a0_5]
    omega
  have v6 : nst s 27 6 = r % 1000000 := by
    rw [a27_6, a26_6, a25_6, a24_6, a23_6, a22_6, a21_6, a20_6, a19_6, a18_6, a17_6, a16_6, a15_6, a14_6, a13_6, a12_6, a11_6, a10_6, a9_6, a8_6, a7_6, a6_6, a5_6, a4_6, a3_6, a2_6, a1_6, a0_6]
    omega
  exact ⟨v0, v1, v2, v3, v4, v5, v6⟩
theorem badF_none {s : ByteArray} (h : ∀ j, j < 27 → goodAt s j) : ∀ k i, k + i = 27 → badF s k i = none
  | 0, _, _ => rfl
  | k + 1, i, hk => (if_pos (h i (by omega))).trans (badF_none h k (i + 1) (by omega))
theorem good_of_none {s : ByteArray} : ∀ k i, k + i = 27 → badF s k i = none → ∀ j, i ≤ j → j < 27 → goodAt s j
  | 0, i, hk, _, j, h1, h2 => by omega
  | k + 1, i, hk, hb, j, h1, h2 => by
    by_cases g : goodAt s i
    · have hb' : badF s k (i + 1) = none := (if_pos g).symm.trans hb
      rcases Nat.lt_or_ge i j with h | h
      · exact good_of_none k (i + 1) (by omega) hb' j (by omega) h2
      · rw [show j = i by omega]; exact g
    · have : some i = none := (if_neg g).symm.trans hb
      cases this
end Go.Proofs.YtjdjncfpcbeedaaDoor
