/- An angle's text in hours: the reference's; the law ArcTexts. -/
import Derived.Test.YtpkifhmnibepiaaDoorHours
namespace Go.Proofs.YtpkifhmnibepiaaDoor
open Go.RowKit

set_option maxHeartbeats 4000000 in
theorem hoursText_any (a : Int) (ha : In64 a) (W : World) :
    Calls Tryd.prog 21 #[.int .i64 a] W fun e w' => ∃ d : ByteArray, e = .returned (.string d) ∧ Hid (d = bs (houL (houN a).toNat)) ∧ Below W.heap.size W w' := by
  have HN := Lib.hid (fun W => normOf_any a W ha)
  have HW := Lib.hid (fun x a b W => wide_int x 2 a b (by omega) W)
  have HS := Lib.hid (fun x a b W => sixties_any x [104] [109] [115] a b (by decide) (by decide) (by decide) W)
  have HR : Hid (∀ q : Int, q = houN a → ∀ d1 d2, d1 = bs (wideL 2 (q / 3600000000).toNat) → d2 = bs (sixL q.toNat [104] [109] [115]) → d1 ++ d2 = bs (houL (houN a).toNat)) := Lib.hid (fun q hq d1 d2 h1 h2 => by
    have := houN_bd a
    rw [h1, h2, bs_append, hq, houL, show (houN a / 3600000000).toNat = (houN a).toNat / 3600000000 by omega])
  have hb := nrm_bd a
  have HQ2 : Hid (∀ q, q = (nrm a + 7) / 15 % 86400000000 → q = houN a) := Lib.hid (fun q h => by rw [h]; rfl)
  generalize nrm a = m at *
  by_cases c : (m + 7) / 15 = 86400000000
  · have hbq : ((m + 7) / 15 == 86400000000) = true := by simp [c]
    have HQ3 := Lib.hid (HQ2.out 0 (by omega))
    clear HQ2 c
    go_enter Tryd.func21, Tryd.ntmps21
    go_wp2_with fail
    refine (HN.out _).mono ?_; rintro e w' ⟨rfl, rfl⟩
    go_wp2_with fail
    refine (HW.out _ (by omega) (by omega) _).mono ?_; rintro e w1 ⟨d1, rfl, hd1, H1, hb1⟩
    have HB1 := Lib.hid hb1
    clear hb1
    go_wp2_with fail
    refine (HS.out _ (by omega) (by omega) _).mono ?_; rintro e w2 ⟨d2, rfl, hd2, H2, hb2⟩
    have HB2 := Lib.hid (below_step HB1.out hb2)
    clear hb2
    go_wp2
    go_ret
    exact ⟨_, rfl, Lib.hid (HR.out _ HQ3.out d1 d2 H1.out H2.out), HB2.out⟩
  · have hbq : ((m + 7) / 15 == 86400000000) = false := by simpa using c
    have HQ3 := Lib.hid (HQ2.out ((m + 7) / 15) (by omega))
    clear HQ2 c
    go_enter Tryd.func21, Tryd.ntmps21
    go_wp2_with fail
    refine (HN.out _).mono ?_; rintro e w' ⟨rfl, rfl⟩
    go_wp2_with fail
    refine (HW.out _ (by omega) (by omega) _).mono ?_; rintro e w1 ⟨d1, rfl, hd1, H1, hb1⟩
    have HB1 := Lib.hid hb1
    clear hb1
    go_wp2_with fail
    refine (HS.out _ (by omega) (by omega) _).mono ?_; rintro e w2 ⟨d2, rfl, hd2, H2, hb2⟩
    have HB2 := Lib.hid (below_step HB1.out hb2)
    clear hb2
    go_wp2
    go_ret
    exact ⟨_, rfl, Lib.hid (HR.out _ HQ3.out d1 d2 H1.out H2.out), HB2.out⟩

theorem degrees_both (a : Int) (h1 : -1152921504606846976 ≤ a) (h2 : a ≤ 1152921504606846976) : ∃ l : List UInt8,
    (∀ W, Pow10 W → Calls Tryd.prog 19 #[.int .i64 a] W fun e w' => ∃ d : ByteArray, e = .returned (.string d) ∧ Hid (d = bs l) ∧ Below W.heap.size W w') ∧
    ∀ W, Calls Tryd.prog 20 #[.int .i64 a] W fun e w' => ∃ d : ByteArray, e = .returned (.string d) ∧ Hid (d = bs l) ∧ Below W.heap.size W w' := by
  by_cases c : a < 0
  · obtain ⟨n, rfl⟩ : ∃ n : Nat, a = -(n : Int) := ⟨a.natAbs, by omega⟩
    exact ⟨_, fun W ht => degrees_neg n (by omega) (by omega) W ht, fun W => degreesText_neg n (by omega) (by omega) W⟩
  · obtain ⟨n, rfl⟩ : ∃ n : Nat, a = (n : Int) := ⟨a.toNat, by omega⟩
    exact ⟨_, fun W ht => degrees_pos n (by omega) W ht, fun W => degreesText_pos n (by omega) W⟩

theorem hou_first : bs (houL (houN 15000000).toNat) = { data := #[48, 48, 104, 48, 48, 109, 48, 49, 46, 48, 48, 48, 48, 48, 48, 115] } := by decide +kernel
set_option maxHeartbeats 4000000 in
theorem arcTexts_any (a : Int) (ha : In64 a) (W : World) (ht : Pow10 W) :
    Calls Tryd.prog 4 #[.int .i64 a] W fun e w' => e = .returned (.bool true) ∧ Below W.heap.size W w' := by
  have H0 := Lib.hid (fun W t => hours_any 15000000 (by unfold In64; omega) W t)
  have HT := Lib.hid ht
  have HF := Lib.hid hou_first
  clear ht
  by_cases c : -1152921504606846976 ≤ a ∧ a ≤ 1152921504606846976
  · obtain ⟨h1, h2⟩ := c
    obtain ⟨l, A1, A2⟩ := degrees_both a h1 h2
    have HA1 := Lib.hid A1
    have HA2 := Lib.hid A2
    have HB1 := Lib.hid (fun W t => hours_any a ha W t)
    have HB2 := Lib.hid (fun W => hoursText_any a ha W)
    clear A1 A2 ha
    generalize bs l = L at *
    generalize bs (houL (houN a).toNat) = M at *
    go_enter Tryd.func4, Tryd.ntmps4
    go_wp2_with fail
    refine (H0.out _ HT.out).mono ?_; rintro e w1 ⟨u, rfl, Hu, hb1⟩
    rw [HF.out] at Hu
    obtain rfl := Hu.out
    have HB := Lib.hid hb1
    clear hb1 Hu
    go_wp2_with fail
    refine (HA1.out _ (HT.out.below HB.out)).mono ?_; rintro e w2 ⟨d, rfl, Hd, hb2⟩
    obtain rfl := Hd.out
    have HBb := Lib.hid (below_step HB.out hb2)
    clear hb2 Hd
    go_wp2_with fail
    refine (HB1.out _ (HT.out.below HBb.out)).mono ?_; rintro e w3 ⟨h, rfl, Hh, hb3⟩
    obtain rfl := Hh.out
    have HBc := Lib.hid (below_step HBb.out hb3)
    clear hb3 Hh
    go_wp2_with fail
    refine (HA2.out _).mono ?_; rintro e w4 ⟨d', rfl, Hd, hb4⟩
    obtain rfl := Hd.out
    have HBd := Lib.hid (below_step HBc.out hb4)
    clear hb4 Hd
    go_wp2_with fail
    refine (HB2.out _).mono ?_; rintro e w5 ⟨h', rfl, Hh, hb5⟩
    obtain rfl := Hh.out
    have HBe := Lib.hid (below_step HBd.out hb5)
    clear hb5 Hh
    go_wp2
    go_ret
    exact ⟨rfl, HBe.out⟩
  · clear ha
    by_cases c1 : 1152921504606846976 < a
    all_goals
      go_enter Tryd.func4, Tryd.ntmps4
      go_wp2_with fail
      refine (H0.out _ HT.out).mono ?_; rintro e w1 ⟨u, rfl, Hu, hb1⟩
      rw [HF.out] at Hu
      obtain rfl := Hu.out
      have HB := Lib.hid hb1
      clear hb1 Hu
      go_wp2
      go_ret
      exact ⟨rfl, HB.out⟩
end Go.Proofs.YtpkifhmnibepiaaDoor
