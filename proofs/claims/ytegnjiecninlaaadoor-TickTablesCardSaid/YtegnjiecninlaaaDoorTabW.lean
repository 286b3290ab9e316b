/- The law TickTables: its walk. -/
import Derived.Test.YtegnjiecninlaaaDoorLive
import Derived.Test.YtegnjiecninlaaaDoorTerr
import Derived.Test.YtegnjiecninlaaaDoorDaysW
namespace Go.Proofs.YtegnjiecninlaaaDoor
open Go.RowKit

/-- The program's word on a table and the reference's. -/
theorem valid_pair (ad : Nat → Addr) (D A : Nat → Int) (a : Option Addr) (len cap : Nat) : ∃ (ev : Value) (e : Int),
    (∀ W, Sents W ad → Tab W a len D A → Calls Tryd.prog 32 #[.slice a len cap] W fun e' w' => e' = .returned ev ∧ Below W.heap.size W w') ∧
    (∀ W, Tab W a len D A → Calls Tryd.prog 31 #[.slice a len cap] W fun e' w' => e' = .returned (.int .i64 e) ∧ W = w') ∧
    (∀ W, Sents W ad → Calls Tryd.prog 15 #[ev, .int .i64 e] W fun e' w' => e' = .returned (.bool true) ∧ Below W.heap.size W w') := by
  by_cases g : goodT D A len
  · exact ⟨.nilIface, 0, fun W hW hT => valid_good ad D A a len cap W (hW.errs _ (by decide)) hT g, fun W hT => terr_good D A a len cap W hT g, fun W _ => coded1_nil W⟩
  · refine ⟨badV ad len, badE len, fun W hW hT => valid_bad ad D A a len cap W (hW.errs _ (by decide)) hT g, fun W hT => terr_bad D A a len cap W hT g, fun W hW => ?_⟩
    unfold badV badA badE
    by_cases hl : 60 < len
    · rw [if_pos hl, if_pos hl]; exact coded1_err ad 1 2 (by decide) (by decide) W hW
    · rw [if_neg hl, if_neg hl]; exact coded1_err ad 3 4 (by decide) (by decide) W hW

theorem known_long : ∀ j, j < 28 → 1 ≤ longF ((ats.getD j 0).tdiv 100) ((ats.getD j 0).tmod 100) := by
  intro j _
  have := long_bd ((ats.getD j 0).tdiv 100) ((ats.getD j 0).tmod 100)
  omega
/-- The date of a known row. -/
theorem known_date (j : Nat) (hj : j < 28) : ∃ p q : Int, (q = 1 ∨ q = 7) ∧
    (∀ W, Calls Tryd.prog 24 #[.int .i64 (KD j)] W fun e' w' => e' = .returned (.tuple #[.int .i64 p, .int .i64 q, .int .i64 1]) ∧ Below W.heap.size W w') := by
  obtain ⟨p, q, r, _, h2, h3⟩ := dates_pair (KD j)
  obtain ⟨x1, x2, x3, x4, x5⟩ := ats_ok j hj
  have hlong := known_long j hj
  have hd : IsDate (KD j) ((ats.getD j 0).tdiv 100) ((ats.getD j 0).tmod 100).toNat 1 := by
    have hm : ((((ats.getD j 0).tmod 100).toNat : Nat) : Int) = (ats.getD j 0).tmod 100 := by omega
    exact dayOf_date (by omega) (by omega) (by omega) (by omega) (by decide) (by rw [hm]; exact hlong)
  have hy := isDate_year hd
  rcases h3 with ⟨_, _, _, h⟩ | ⟨k, hk, hd2⟩
  · have h1 := ahead_le (show (1 : Int) ≤ (ats.getD j 0).tdiv 100 by omega)
    have h2 := ahead_le (show (ats.getD j 0).tdiv 100 + 1 ≤ 10000 by omega)
    rw [ahead_1] at h1
    rw [ahead_10000] at h2
    omega
  · obtain ⟨e1, e2, e3⟩ := isDate_one hd2 hd
    subst e3
    exact ⟨p, q, by omega, h2⟩

theorem tables_long (ad : Nat → Addr) (a : Option Addr) (len cap : Nat) (hl : 100 < len) (w : World) (he : Errs w ad [1, 2, 3]) :
    Calls Tryd.prog 7 #[.slice a len cap] w fun e w' => e = .returned (.bool true) ∧ Below w.heap.size w w' := by
  have HL := Lib.hid (live_any ad w he)
  clear he
  go_enter Tryd.func7, Tryd.ntmps7
  go_wp2_with fail
  refine HL.out.mono ?_; rintro e w1 ⟨rfl, hb1⟩
  go_wp2
  go_ret
  exact ⟨rfl, hb1⟩

theorem KD_0 : KD 0 = -10227 := by decide +kernel
theorem KD_27 : KD 27 = 6210 := by decide +kernel

set_option maxHeartbeats 2000000 in
theorem tables_ok (ad : Nat → Addr) (D A : Nat → Int) (a : Option Addr) (len cap : Nat) (hl : len ≤ 100) (w : World) (h : Sents w ad) (hT : Tab w a len D A) :
    Calls Tryd.prog 7 #[.slice a len cap] w fun e w' => e = .returned (.bool true) ∧ Below w.heap.size w w' := by
  have HL := Lib.hid (live_any ad w (h.errs _ (by decide)))
  have HS := Lib.hid h
  have HT := Lib.hid hT
  obtain ⟨ev, ec, V1, V2, V3⟩ := valid_pair ad D A a len cap
  have HV1 := Lib.hid V1
  have HV2 := Lib.hid V2
  have HV3 := Lib.hid V3
  clear h hT V1 V2 V3
  go_enter Tryd.func7, Tryd.ntmps7
  go_wp2_with fail
  refine HL.out.mono ?_; rintro e w1 ⟨rfl, hb1⟩
  have HB1 := Lib.hid hb1
  clear hb1 HL
  go_wp2_with fail
  refine (known_any _).mono ?_; rintro e w2 ⟨⟨b, kcap, rfl, hK⟩, hb2⟩
  have HB2 := Lib.hid (below_step HB1.out hb2)
  have hcs : ∀ j, j < 28 → w2.cell? ⟨b, j * 2, none⟩ = some (.int .i64 (KD j)) ∧ w2.cell? ⟨b, j * 2 + 1, none⟩ = some (.int .i64 (KA j)) := by
    intro j hj
    rcases hK with h0 | ⟨b', off, e, hc⟩
    · omega
    · injection e with e
      injection e with e1 e2
      subst e1
      subst e2
      have := hc j hj
      simp only [Nat.zero_add] at this
      exact ⟨this.1, this.2.1⟩
  have HK := Lib.hid hK
  have HC := Lib.hid hcs
  have c0 := (hcs 0 (by decide)).1
  have c1 := (hcs 0 (by decide)).2
  have c2 := (hcs 27 (by decide)).1
  have c3 := (hcs 27 (by decide)).2
  rw [KD_0] at c0
  rw [KD_27] at c2
  simp only [Nat.zero_mul, Nat.zero_add, Nat.reduceMul, Nat.reduceAdd] at c0 c1 c2 c3
  rw [show KA 0 = 10 from rfl] at c1
  rw [show KA 27 = 37 from rfl] at c3
  clear hK hcs hb2
  go_wp2_with fail
  refine (terr_good KD KA (some ⟨b, 0, none⟩) 28 kcap w2 HK.out known_good).mono ?_; rintro e w3 ⟨rfl, rfl⟩
  clear c0 c1 c2 c3
  go_wp2
  go_loopw [5] (fun x wr => ∃ k : Nat, x = .int .i64 k ∧ 1 ≤ k ∧ k ≤ 28 ∧ Hid (Below w2.heap.size w2 wr)) (fun x _ => 28 - (intOf x).toNat)
  case atStart => exact ⟨1, rfl, by decide, by decide, Below.refl _ _⟩
  case round =>
    obtain ⟨k, rfl, hk1, hk2, hb⟩ := hrel
    by_cases hlt : k < 28
    · obtain ⟨p, q, hq, hD⟩ := known_date k hlt
      obtain ⟨j, rfl⟩ : ∃ j, k = j + 1 := ⟨k - 1, by omega⟩
      have HD := Lib.hid hD
      have d1 : wr.cell? ⟨b, (j + 1) * 2, none⟩ = some (.int .i64 (KD (j + 1))) := by
        have := (HC.out (j + 1) hlt).1
        rw [hb.out.cell (p := ⟨b, (j + 1) * 2, none⟩) (cell_lt this)]; exact this
      have HKA := Lib.hid (show KA (j + 1) = KA j + 1 by unfold KA; omega)
      have hka : 10 ≤ KA j ∧ KA j ≤ 100 := by unfold KA; omega
      have HC2 := HC.out
      clear hD
      generalize KD (j + 1) = kd at *
      go_wp2_with fail
      refine (HD.out _).mono ?_; rintro e w4 ⟨rfl, hb4⟩
      have hb24 := below_step hb.out hb4
      have d2 : w4.cell? ⟨b, (j + 1) * 2 + 1, none⟩ = some (.int .i64 (KA j + 1)) := by
        have := (HC.out (j + 1) hlt).2
        rw [HKA.out] at this
        rw [hb24.cell (p := ⟨b, (j + 1) * 2 + 1, none⟩) (cell_lt this)]; exact this
      have d3 : w4.cell? ⟨b, j * 2 + 1, none⟩ = some (.int .i64 (KA j)) := by
        have := (HC.out j (by omega)).2
        rw [hb24.cell (p := ⟨b, j * 2 + 1, none⟩) (cell_lt this)]; exact this
      have HB4 := Lib.hid hb24
      generalize KA j = x at *
      have b1 : (x + 1 != x + 1) = false := by simp
      clear hb4 hb24 d1 HKA HC2
      rcases hq with rfl | rfl
      · go_wp2
        go_quiet (fail)
        go_wp2
        go_roundw
        case rel => exact ⟨j + 1 + 1, by go_num, by omega, by omega, below_drewN HB4.out _⟩
        case measure => simp [intOf]; omega
      · go_wp2
        go_quiet (fail)
        go_wp2
        go_roundw
        case rel => exact ⟨j + 1 + 1, by go_num, by omega, by omega, below_drewN HB4.out _⟩
        case measure => simp [intOf]; omega
    · have HB3 := Lib.hid (below_step HB2.out hb.out)
      go_wp2_with fail
      refine (HV1.out _ (HS.out.below HB3.out) (HT.out.below HB3.out)).mono ?_; rintro e w4 ⟨rfl, hb4⟩
      have HB4 := Lib.hid (below_step HB3.out hb4)
      clear hb4
      go_wp2_with fail
      refine (HV2.out _ (HT.out.below HB4.out)).mono ?_; rintro e w5 ⟨rfl, rfl⟩
      go_wp2_with fail
      refine (HV3.out _ (HS.out.below HB4.out)).mono ?_; rintro e w5 ⟨rfl, hb5⟩
      have HB5 := Lib.hid (below_step HB4.out hb5)
      clear hb5
      go_wp2
      go_ret
      exact ⟨rfl, HB5.out⟩

theorem tables_law (ad : Nat → Addr) (D A : Nat → Int) (a : Option Addr) (len cap : Nat) {w : World} (hT : Tab w a len D A) (h : Sents w ad) :
    Calls Tryd.prog 7 #[.slice a len cap] w fun e w' => e = .returned (.bool true) ∧ Below w.heap.size w w' := by
  by_cases hl : 100 < len
  · exact tables_long ad a len cap hl w (h.errs _ (by decide))
  · exact tables_ok ad D A a len cap (by omega) w h hT
end Go.Proofs.YtegnjiecninlaaaDoor
