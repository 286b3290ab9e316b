/- The reference's scan: number. -/
import Derived.Test.YtpkifhmnibepiaaDoorScanR
import Derived.Test.YtpkifhmnibepiaaDoorScan3
namespace Go.Proofs.YtpkifhmnibepiaaDoor
open Go.RowKit

def nb (least c : Nat) (bad : Int) (k : Nat) : Int := if c < least then wrB bad k else bad
section
variable {w0 : World} {sb : Nat} {a : Option Addr} {N cap : Nat} {L : Nat → Int}
set_option maxHeartbeats 4000000 in
theorem numberR_lt (ho : RsOk w0 sb a N L) (least most k : Nat) (hm : most ≤ 6) (hk : k ≤ 1500000) (bad : Int) (w : World) (h : Rs w0 sb a N cap k bad w) (hlt' : cnt (seeF N L) most k < least) :
    Calls Tryd.prog 65 #[.pointer (some ⟨sb, 0, none⟩), .int .i64 least, .int .i64 most] w fun e w' => e = .returned (.tuple #[.int .i64 (numV (seeF N L) k (cnt (seeF N L) most k)), .int .i64 (cnt (seeF N L) most k : Nat)]) ∧ Rs w0 sb a N cap (k + cnt (seeF N L) most k) (nb least (cnt (seeF N L) most k) bad (k + cnt (seeF N L) most k)) w' := by
  have H := Lib.hid h
  have hN := ho.1
  have HC := Lib.hid (fun j h => cnt_digit (seeF N L) most k j h)
  have HS := Lib.hid (fun h => cnt_stop (seeF N L) most k h)
  have hcm := cnt_le (seeF N L) most k
  have HV := Lib.hid (fun j h => numV_bd (seeF N L) k j h)
  have HG := Lib.hid (fun q hq w h => see_any (cap := cap) ho q hq bad w h)
  have HE : Hid (∀ j, numV (seeF N L) k (j + 1) = numV (seeF N L) k j * 10 + (seeF N L (k + j) - 48)) := Lib.hid (fun j => rfl)
  generalize cnt (seeF N L) most k = c at *
  have HB : Hid (nb least c bad (k + c) = wrB bad (k + c : Nat)) := Lib.hid (if_pos hlt')
  have d0 : decide (c < least) = true := by simp; omega
  clear h ho
  go_enter Tryd.func65, Tryd.ntmps65
  go_wp2
  go_loopw [8, 9] (fun v i wr => ∃ j : Nat, j ≤ c ∧ i = .int .i64 j ∧ v = .int .i64 (numV (seeF N L) k j) ∧ Hid (Rs w0 sb a N cap (k + j) bad wr)) (fun _ i _ => most - (intOf i).toNat)
  case atStart => exact ⟨0, Nat.zero_le _, rfl, rfl, H⟩
  case round =>
    obtain ⟨j, hj, rfl, rfl, hr⟩ := hrel
    clear H
    by_cases hlt : j < most
    · have dl : decide ((j : Int) < most) = true := by simp; omega
      by_cases hjc : j < c
      · have hd := isD_bd (HC.out j hjc)
        have HD := Lib.hid (fun w h => HG.out (k + j) (by omega) w h)
        have hv := HV.out j (fun i hi => HC.out i (by omega))
        have hp := pow10_le j (by omega)
        have hv1 : numV (seeF N L) k j < 1000000 := by omega
        have hv0 := hv.1
        have HEJ := Lib.hid (HE.out j)
        clear hp hv
        generalize numV (seeF N L) k j = v at *
        generalize seeF N L (k + j) = x at *
        have d2 : decide (48 ≤ x) = true := by simp; omega
        have d3 : decide (x ≤ 57) = true := by simp; omega
        go_wp2_with fail
        refine (HD.out _ hr.out).mono ?_; rintro e w1 ⟨rfl, hr1⟩
        have HR1 := Lib.hid hr1
        clear hr1
        go_wp2_with fail
        refine (HD.out _ HR1.out).mono ?_; rintro e w2 ⟨rfl, hr2⟩
        have HR2 := Lib.hid hr2
        clear hr2
        go_wp2_with fail
        refine (HD.out _ HR2.out).mono ?_; rintro e w3 ⟨rfl, hr3⟩
        have HR3 := Lib.hid hr3
        obtain ⟨_, _, x1, _, x2, _⟩ := hr3
        clear HD hr
        go_wp2
        go_roundw
        case rel => exact ⟨j + 1, by omega, by go_num, by rw [HEJ.out]; congr 1; omega, Lib.hid (HR3.out.at (k + (j + 1)) (by omega))⟩
        case measure => simp [intOf]; omega
      · obtain rfl : j = c := by omega
        have hd := HS.out hlt
        have HD := Lib.hid (fun w h => HG.out (k + j) (by omega) w h)
        generalize seeF N L (k + j) = x at *
        by_cases x48 : 48 ≤ x
        · have d2 : decide (48 ≤ x) = true := by simp; omega
          have d3 : decide (x ≤ 57) = false := by unfold isD at hd; simp at hd ⊢; omega
          clear hd
          go_wp2_with fail
          refine (HD.out _ hr.out).mono ?_; rintro e w1 ⟨rfl, hr1⟩
          have HR1 := Lib.hid hr1
          clear hr1
          go_wp2_with fail
          refine (HD.out _ HR1.out).mono ?_; rintro e w2 ⟨rfl, hr2⟩
          have HR2 := Lib.hid hr2
          clear hr2
          obtain ⟨_, _, x1, _⟩ := HR2.out
          go_wp2_with fail
          refine (wrongR_any _ _ _ _ HR2.out).mono ?_; rintro e w9 ⟨rfl, h9⟩
          have H9 := Lib.hid h9
          clear h9
          go_wp2
          go_ret2
          exact ⟨rfl, by rw [HB.out]; exact H9.out⟩
        · have d2 : decide (48 ≤ x) = false := by simp; omega
          clear hd
          go_wp2_with fail
          refine (HD.out _ hr.out).mono ?_; rintro e w1 ⟨rfl, hr1⟩
          have HR1 := Lib.hid hr1
          clear hr1
          obtain ⟨_, _, x1, _⟩ := HR1.out
          go_wp2_with fail
          refine (wrongR_any _ _ _ _ HR1.out).mono ?_; rintro e w9 ⟨rfl, h9⟩
          have H9 := Lib.hid h9
          clear h9
          go_wp2
          go_ret2
          exact ⟨rfl, by rw [HB.out]; exact H9.out⟩
    · obtain rfl : j = c := by omega
      have dl : decide ((j : Int) < most) = false := by simp; omega
      obtain ⟨_, _, x1, _⟩ := hr.out
      go_wp2_with fail
      refine (wrongR_any _ _ _ _ hr.out).mono ?_; rintro e w9 ⟨rfl, h9⟩
      have H9 := Lib.hid h9
      clear h9
      go_wp2
      go_ret2
      exact ⟨rfl, by rw [HB.out]; exact H9.out⟩
set_option maxHeartbeats 4000000 in
theorem numberR_ge (ho : RsOk w0 sb a N L) (least most k : Nat) (hm : most ≤ 6) (hk : k ≤ 1500000) (bad : Int) (w : World) (h : Rs w0 sb a N cap k bad w) (hlt' : ¬ cnt (seeF N L) most k < least) :
    Calls Tryd.prog 65 #[.pointer (some ⟨sb, 0, none⟩), .int .i64 least, .int .i64 most] w fun e w' => e = .returned (.tuple #[.int .i64 (numV (seeF N L) k (cnt (seeF N L) most k)), .int .i64 (cnt (seeF N L) most k : Nat)]) ∧ Rs w0 sb a N cap (k + cnt (seeF N L) most k) (nb least (cnt (seeF N L) most k) bad (k + cnt (seeF N L) most k)) w' := by
  have H := Lib.hid h
  have hN := ho.1
  have HC := Lib.hid (fun j h => cnt_digit (seeF N L) most k j h)
  have HS := Lib.hid (fun h => cnt_stop (seeF N L) most k h)
  have hcm := cnt_le (seeF N L) most k
  have HV := Lib.hid (fun j h => numV_bd (seeF N L) k j h)
  have HG := Lib.hid (fun q hq w h => see_any (cap := cap) ho q hq bad w h)
  have HE : Hid (∀ j, numV (seeF N L) k (j + 1) = numV (seeF N L) k j * 10 + (seeF N L (k + j) - 48)) := Lib.hid (fun j => rfl)
  generalize cnt (seeF N L) most k = c at *
  have HB : Hid (nb least c bad (k + c) = bad) := Lib.hid (if_neg hlt')
  have d0 : decide (c < least) = false := by simp; omega
  clear h ho
  go_enter Tryd.func65, Tryd.ntmps65
  go_wp2
  go_loopw [8, 9] (fun v i wr => ∃ j : Nat, j ≤ c ∧ i = .int .i64 j ∧ v = .int .i64 (numV (seeF N L) k j) ∧ Hid (Rs w0 sb a N cap (k + j) bad wr)) (fun _ i _ => most - (intOf i).toNat)
  case atStart => exact ⟨0, Nat.zero_le _, rfl, rfl, H⟩
  case round =>
    obtain ⟨j, hj, rfl, rfl, hr⟩ := hrel
    clear H
    by_cases hlt : j < most
    · have dl : decide ((j : Int) < most) = true := by simp; omega
      by_cases hjc : j < c
      · have hd := isD_bd (HC.out j hjc)
        have HD := Lib.hid (fun w h => HG.out (k + j) (by omega) w h)
        have hv := HV.out j (fun i hi => HC.out i (by omega))
        have hp := pow10_le j (by omega)
        have hv1 : numV (seeF N L) k j < 1000000 := by omega
        have hv0 := hv.1
        have HEJ := Lib.hid (HE.out j)
        clear hp hv
        generalize numV (seeF N L) k j = v at *
        generalize seeF N L (k + j) = x at *
        have d2 : decide (48 ≤ x) = true := by simp; omega
        have d3 : decide (x ≤ 57) = true := by simp; omega
        go_wp2_with fail
        refine (HD.out _ hr.out).mono ?_; rintro e w1 ⟨rfl, hr1⟩
        have HR1 := Lib.hid hr1
        clear hr1
        go_wp2_with fail
        refine (HD.out _ HR1.out).mono ?_; rintro e w2 ⟨rfl, hr2⟩
        have HR2 := Lib.hid hr2
        clear hr2
        go_wp2_with fail
        refine (HD.out _ HR2.out).mono ?_; rintro e w3 ⟨rfl, hr3⟩
        have HR3 := Lib.hid hr3
        obtain ⟨_, _, x1, _, x2, _⟩ := hr3
        clear HD hr
        go_wp2
        go_roundw
        case rel => exact ⟨j + 1, by omega, by go_num, by rw [HEJ.out]; congr 1; omega, Lib.hid (HR3.out.at (k + (j + 1)) (by omega))⟩
        case measure => simp [intOf]; omega
      · obtain rfl : j = c := by omega
        have hd := HS.out hlt
        have HD := Lib.hid (fun w h => HG.out (k + j) (by omega) w h)
        generalize seeF N L (k + j) = x at *
        by_cases x48 : 48 ≤ x
        · have d2 : decide (48 ≤ x) = true := by simp; omega
          have d3 : decide (x ≤ 57) = false := by unfold isD at hd; simp at hd ⊢; omega
          clear hd
          go_wp2_with fail
          refine (HD.out _ hr.out).mono ?_; rintro e w1 ⟨rfl, hr1⟩
          have HR1 := Lib.hid hr1
          clear hr1
          go_wp2_with fail
          refine (HD.out _ HR1.out).mono ?_; rintro e w2 ⟨rfl, hr2⟩
          have HR2 := Lib.hid hr2
          clear hr2
          go_wp2
          go_ret2
          exact ⟨rfl, by rw [HB.out]; exact HR2.out⟩
        · have d2 : decide (48 ≤ x) = false := by simp; omega
          clear hd
          go_wp2_with fail
          refine (HD.out _ hr.out).mono ?_; rintro e w1 ⟨rfl, hr1⟩
          have HR1 := Lib.hid hr1
          clear hr1
          go_wp2
          go_ret2
          exact ⟨rfl, by rw [HB.out]; exact HR1.out⟩
    · obtain rfl : j = c := by omega
      have dl : decide ((j : Int) < most) = false := by simp; omega
      go_wp2
      go_ret2
      exact ⟨rfl, by rw [HB.out]; exact hr.out⟩
theorem numberR_any (ho : RsOk w0 sb a N L) (least most k : Nat) (hm : most ≤ 6) (hk : k ≤ 1500000) (bad : Int) (w : World) (h : Rs w0 sb a N cap k bad w) :
    Calls Tryd.prog 65 #[.pointer (some ⟨sb, 0, none⟩), .int .i64 least, .int .i64 most] w fun e w' => e = .returned (.tuple #[.int .i64 (numV (seeF N L) k (cnt (seeF N L) most k)), .int .i64 (cnt (seeF N L) most k : Nat)]) ∧ Rs w0 sb a N cap (k + cnt (seeF N L) most k) (nb least (cnt (seeF N L) most k) bad (k + cnt (seeF N L) most k)) w' := by
  by_cases c : cnt (seeF N L) most k < least
  · exact numberR_lt ho least most k hm hk bad w h c
  · exact numberR_ge ho least most k hm hk bad w h c
end
end Go.Proofs.YtpkifhmnibepiaaDoor
