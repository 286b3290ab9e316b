/- An angle's text in hours: the program's and the reference's. -/
import Derived.Test.YtpkifhmnibepiaaDoorDegs
import Derived.Test.YtpkifhmnibepiaaDoorArcN
namespace Go.Proofs.YtpkifhmnibepiaaDoor
open Go.RowKit

/-- An angle in fifteenths, rounded. -/
def houN (a : Int) : Int := (nrm a + 7) / 15 % 86400000000
theorem houN_bd (a : Int) : 0 ≤ houN a ∧ houN a < 86400000000 := by unfold houN; omega
def houL (n : Nat) : List UInt8 := wideL 2 (n / 3600000000) ++ sixL n [104] [109] [115]
theorem houL_cat (n : Nat) (hn : n < 86400000000) (d1 d2 d3 d4 : ByteArray) (h1 : d1 = bs (padL 2 (n / 3600000000))) (h2 : d2 = bs (padL 2 (n / 60000000 % 60))) (h3 : d3 = bs (padL 2 (n / 1000000 % 60))) (h4 : d4 = bs (padL 6 (n % 1000000))) :
    d1 ++ { data := #[104] } ++ d2 ++ { data := #[109] } ++ d3 ++ { data := #[46] } ++ d4 ++ { data := #[115] } = bs (houL n) := by
  have e1 : ({ data := #[104] } : ByteArray) = bs [104] := rfl
  have e2 : ({ data := #[109] } : ByteArray) = bs [109] := rfl
  have e3 : ({ data := #[46] } : ByteArray) = bs [46] := rfl
  have e4 : ({ data := #[115] } : ByteArray) = bs [115] := rfl
  rw [h1, h2, h3, h4, e1, e2, e3, e4, padL_wide 1 _ (by omega), padL_wide 1 _ (by omega), padL_wide 1 _ (by omega), padL_wide 5 _ (by omega)]
  simp only [bs_append, houL, sixL, List.append_assoc]

set_option maxHeartbeats 4000000 in
theorem hours_any (a : Int) (ha : In64 a) (W : World) (ht : Pow10 W) :
    Calls Tryd.prog 18 #[.int .i64 a] W fun e w' => ∃ d : ByteArray, e = .returned (.string d) ∧ Hid (d = bs (houL (houN a).toNat)) ∧ Below W.heap.size W w' := by
  have HD := Lib.hid (fun x w a b c W t => arcDigits_int x w a b c W t)
  have HN := Lib.hid (fun W => norm_any a W ha)
  have HT := Lib.hid ht
  have HR := Lib.hid (fun d1 d2 d3 d4 a' b c d => houL_cat (houN a).toNat (by have := houN_bd a; omega) d1 d2 d3 d4 a' b c d)
  have hb := nrm_bd a
  have HQ : ∀ q, q = houN a → Hid (houN a = q) := fun q h => Lib.hid h.symm
  unfold houN at HQ
  have HQ2 : Hid (∀ q, q = (nrm a + 7) / 15 % 86400000000 → houN a = q) := Lib.hid (fun q h => by rw [h]; rfl)
  clear ht HQ
  generalize nrm a = m at *
  by_cases c : 7 < m % 15
  · have HQ3 := Lib.hid (HQ2.out ((m / 15 + 1) % 86400000000) (by omega))
    have h2 : 0 ≤ (m / 15 + 1) % 86400000000 ∧ (m / 15 + 1) % 86400000000 < 86400000000 := by omega
    clear HQ2
    rw [HQ3.out] at HR
    go_enter Tryd.func18, Tryd.ntmps18
    go_wp2_with fail
    refine (HN.out _).mono ?_; rintro e w' ⟨rfl, rfl⟩
    go_wp2_with fail
    refine (HD.out _ 2 (by omega) (by omega) (by omega) _ HT.out).mono ?_; rintro e w1 ⟨d1, rfl, hd1, H1, hb1⟩
    have HB1 := Lib.hid hb1
    clear hb1
    go_wp2_with fail
    refine (HD.out _ 2 (by omega) (by omega) (by omega) _ (HT.out.below HB1.out)).mono ?_; rintro e w2 ⟨d2, rfl, hd2, H2, hb2⟩
    have HB2 := Lib.hid (below_step HB1.out hb2)
    clear hb2
    go_wp2_with fail
    refine (HD.out _ 2 (by omega) (by omega) (by omega) _ (HT.out.below HB2.out)).mono ?_; rintro e w3 ⟨d3, rfl, hd3, H3, hb3⟩
    have HB3 := Lib.hid (below_step HB2.out hb3)
    clear hb3
    go_wp2_with fail
    refine (HD.out _ 6 (by omega) (by omega) (by omega) _ (HT.out.below HB3.out)).mono ?_; rintro e w4 ⟨d4, rfl, hd4, H4, hb4⟩
    have HB4 := Lib.hid (below_step HB3.out hb4)
    clear hb4
    go_wp2
    go_ret
    rw [HQ3.out]
    exact ⟨_, rfl, Lib.hid (HR.out d1 d2 d3 d4 (by rw [H1.out]; congr 2; omega) (by rw [H2.out]; congr 2; omega) (by rw [H3.out]; congr 2; omega) (by rw [H4.out]; congr 2; omega)), HB4.out⟩
  · have HQ3 := Lib.hid (HQ2.out ((m / 15) % 86400000000) (by omega))
    have h2 : 0 ≤ (m / 15) % 86400000000 ∧ (m / 15) % 86400000000 < 86400000000 := by omega
    clear HQ2
    rw [HQ3.out] at HR
    go_enter Tryd.func18, Tryd.ntmps18
    go_wp2_with fail
    refine (HN.out _).mono ?_; rintro e w' ⟨rfl, rfl⟩
    go_wp2_with fail
    refine (HD.out _ 2 (by omega) (by omega) (by omega) _ HT.out).mono ?_; rintro e w1 ⟨d1, rfl, hd1, H1, hb1⟩
    have HB1 := Lib.hid hb1
    clear hb1
    go_wp2_with fail
    refine (HD.out _ 2 (by omega) (by omega) (by omega) _ (HT.out.below HB1.out)).mono ?_; rintro e w2 ⟨d2, rfl, hd2, H2, hb2⟩
    have HB2 := Lib.hid (below_step HB1.out hb2)
    clear hb2
    go_wp2_with fail
    refine (HD.out _ 2 (by omega) (by omega) (by omega) _ (HT.out.below HB2.out)).mono ?_; rintro e w3 ⟨d3, rfl, hd3, H3, hb3⟩
    have HB3 := Lib.hid (below_step HB2.out hb3)
    clear hb3
    go_wp2_with fail
    refine (HD.out _ 6 (by omega) (by omega) (by omega) _ (HT.out.below HB3.out)).mono ?_; rintro e w4 ⟨d4, rfl, hd4, H4, hb4⟩
    have HB4 := Lib.hid (below_step HB3.out hb4)
    clear hb4
    go_wp2
    go_ret
    rw [HQ3.out]
    exact ⟨_, rfl, Lib.hid (HR.out d1 d2 d3 d4 (by rw [H1.out]; congr 2; omega) (by rw [H2.out]; congr 2; omega) (by rw [H3.out]; congr 2; omega) (by rw [H4.out]; congr 2; omega)), HB4.out⟩
end Go.Proofs.YtpkifhmnibepiaaDoor
