/- The scan of an angle's text: need, number, sixty. -/
import Derived.Test.YtpkifhmnibepiaaDoorScan2
namespace Go.Proofs.YtpkifhmnibepiaaDoor
open Go.RowKit

theorem pow10_le (j : Nat) (h : j ≤ 6) : (10 : Int) ^ j ≤ 1000000 :=
  (by decide : ∀ j : Fin 7, (10 : Int) ^ j.val ≤ 1000000) ⟨j, by omega⟩
section
variable {w0 : World} {sb r N cap : Nat} {L : Nat → Int}
theorem Sc.put' {k : Nat} {w : World} (h : Sc w0 sb r N cap k w) (j : Nat) {z : Int} (hz : z = (j : Int)) : Sc w0 sb r N cap j (w.setCell ⟨sb, 1, none⟩ (.int .i64 z)) := by
  rw [hz]; exact h.put j
theorem need_yes (ho : ScOk w0 sb r N L) (k : Nat) (c : Int) (hc : 0 ≤ c) (w : World) (h : Sc w0 sb r N cap k w) (hs : seeF N L k = c) :
    Calls Tryd.prog 59 #[.pointer (some ⟨sb, 0, none⟩), .int .i32 c] w fun e w' => e = .returned (.tuple #[]) ∧ k < N ∧ Sc w0 sb r N cap (k + 1) w' := by
  have HT := Lib.hid (fun w h => take_yes (cap := cap) ho k c hc w h hs)
  have H := Lib.hid h
  clear h ho hs
  go_enter Tryd.func59, Tryd.ntmps59
  go_wp2_with fail
  refine (HT.out _ H.out).mono ?_; rintro e w1 ⟨rfl, hk, h1⟩
  go_wp2
  go_end0
  exact ⟨rfl, hk, h1⟩
theorem need_no (ho : ScOk w0 sb r N L) (k : Nat) (c : Int) (w : World) (h : Sc w0 sb r N cap k w) (hs : seeF N L k ≠ c) :
    Calls Tryd.prog 59 #[.pointer (some ⟨sb, 0, none⟩), .int .i32 c] w (Stops w0 sb r N cap k) := by
  have HT := Lib.hid (fun w h => take_no (cap := cap) ho k c w h hs)
  have H := Lib.hid h
  have HW := Lib.hid (fun w h => wrong_any (w0 := w0) (sb := sb) (r := r) (N := N) (cap := cap) k w h)
  clear h ho hs
  go_enter Tryd.func59, Tryd.ntmps59
  go_wp2_with fail
  refine (HT.out _ H.out).mono ?_; rintro e w1 ⟨rfl, h1⟩
  have H1 := Lib.hid h1
  clear h1
  go_wp2_with fail
  refine (HW.out _ H1.out).mono ?_; rintro e w2 ⟨rfl, h2⟩
  have H2 := Lib.hid h2
  clear h2
  go_wp2
  exact ⟨rfl, rfl, H2.out⟩
set_option maxHeartbeats 4000000 in
theorem number_ok (ho : ScOk w0 sb r N L) (least most k : Nat) (hm : most ≤ 6) (w : World) (h : Sc w0 sb r N cap k w) (hs : least ≤ cnt (seeF N L) most k) :
    Calls Tryd.prog 57 #[.pointer (some ⟨sb, 0, none⟩), .int .i64 least, .int .i64 most] w fun e w' => e = .returned (.int .i64 (numV (seeF N L) k (cnt (seeF N L) most k))) ∧ Sc w0 sb r N cap (k + cnt (seeF N L) most k) w' := by
  have H := Lib.hid h
  have HO := Lib.hid ho
  have hN := ho.2.1
  have HC := Lib.hid (fun j h => cnt_digit (seeF N L) most k j h)
  have HS := Lib.hid (fun h => cnt_stop (seeF N L) most k h)
  have hcm := cnt_le (seeF N L) most k
  have HV := Lib.hid (fun j h => numV_bd (seeF N L) k j h)
  have HG := Lib.hid (fun q w h => digit_any (cap := cap) ho q w h)
  generalize cnt (seeF N L) most k = c at *
  clear h ho
  go_enter Tryd.func57, Tryd.ntmps57
  go_wp2
  go_loopw [7, 10] (fun v i wr => ∃ j : Nat, j ≤ c ∧ i = .int .i64 j ∧ v = .int .i64 (numV (seeF N L) k j) ∧ Hid (Sc w0 sb r N cap (k + j) wr)) (fun _ i _ => most - (intOf i).toNat)
  case atStart => exact ⟨0, Nat.zero_le _, rfl, rfl, H⟩
  case round =>
    obtain ⟨j, hj, rfl, rfl, hr⟩ := hrel
    clear H
    by_cases hlt : j < most
    · by_cases hjc : j < c
      · have hd := HC.out j hjc
        have hin := isD_lt hd
        have HD := Lib.hid (HG.out (k + j) wr hr.out)
        rw [hd] at HD
        have hb := isD_bd hd
        rw [seeF_in hin] at hb
        have hv := HV.out j (fun i hi => HC.out i (by omega))
        have hp := pow10_le j (by omega)
        have hv1 : numV (seeF N L) k j < 1000000 := by omega
        have hv0 := hv.1
        have HE : Hid (numV (seeF N L) k (j + 1) = numV (seeF N L) k j * 10 + (L (k + j) - 48)) := Lib.hid (by rw [numV, seeF_in hin])
        clear hd hp hv
        generalize numV (seeF N L) k j = v at *
        go_wp2_with fail
        refine (HD.out).mono ?_; rintro e w1 ⟨rfl, hr1⟩
        have HR1 := Lib.hid hr1
        have h3 := hr1.row HO.out hin
        obtain ⟨_, h1, h2, h4⟩ := hr1
        clear HD hr
        have g1 : (0 : Int) ≤ ((k + j : Nat) : Int) := by omega
        have g2 : ((k + j : Nat) : Int) < N := by omega
        generalize L (k + j) = x at *
        have q1 : IntKind.i64.wrap (v * 10) = v * 10 := IntWalk.i64_in _ (by omega)
        have q2 : IntKind.i32.wrap (x - 48) = x - 48 := by rw [IntKind.wrap_i32]; omega
        have q3 : IntKind.i64.wrap (x - 48) = x - 48 := IntWalk.i64_in _ (by omega)
        have q4 : IntKind.i64.wrap (v * 10 + (x - 48)) = v * 10 + (x - 48) := IntWalk.i64_in _ (by omega)
        go_wp2
        go_quiet (fail)
        clear q1 q2 q3 q4
        go_wp2
        go_roundw
        case rel => exact ⟨j + 1, by omega, by go_num, by rw [HE.out], Lib.hid ((HR1.out.drewN _).put' (k + (j + 1)) (by omega))⟩
        case measure => simp [intOf]; omega
      · obtain rfl : j = c := by omega
        have hd := HS.out hlt
        have HD := Lib.hid (HG.out (k + j) wr hr.out)
        rw [hd] at HD
        clear hd
        have d1 : decide ((j : Int) < least) = false := by simp; omega
        go_wp2_with fail
        refine (HD.out).mono ?_; rintro e w1 ⟨rfl, hr1⟩
        go_wp2
        go_ret
        exact ⟨rfl, hr1⟩
    · obtain rfl : j = c := by omega
      go_wp2
      go_ret
      exact ⟨rfl, hr.out⟩
set_option maxHeartbeats 4000000 in
theorem number_no (ho : ScOk w0 sb r N L) (least most k : Nat) (hm : most ≤ 6) (hlm : least ≤ most) (w : World) (h : Sc w0 sb r N cap k w) (hs : cnt (seeF N L) most k < least) :
    Calls Tryd.prog 57 #[.pointer (some ⟨sb, 0, none⟩), .int .i64 least, .int .i64 most] w (Stops w0 sb r N cap (k + cnt (seeF N L) most k)) := by
  have H := Lib.hid h
  have HO := Lib.hid ho
  have hN := ho.2.1
  have HC := Lib.hid (fun j h => cnt_digit (seeF N L) most k j h)
  have HS := Lib.hid (fun h => cnt_stop (seeF N L) most k h)
  have hcm := cnt_le (seeF N L) most k
  have HV := Lib.hid (fun j h => numV_bd (seeF N L) k j h)
  have HG := Lib.hid (fun q w h => digit_any (cap := cap) ho q w h)
  have HW := Lib.hid (fun q w h => wrong_any (w0 := w0) (sb := sb) (r := r) (N := N) (cap := cap) q w h)
  generalize cnt (seeF N L) most k = c at *
  clear h ho
  go_enter Tryd.func57, Tryd.ntmps57
  go_wp2
  go_loopw [7, 10] (fun v i wr => ∃ j : Nat, j ≤ c ∧ i = .int .i64 j ∧ v = .int .i64 (numV (seeF N L) k j) ∧ Hid (Sc w0 sb r N cap (k + j) wr)) (fun _ i _ => most - (intOf i).toNat)
  case atStart => exact ⟨0, Nat.zero_le _, rfl, rfl, H⟩
  case round =>
    obtain ⟨j, hj, rfl, rfl, hr⟩ := hrel
    clear H
    by_cases hjc : j < c
    · have hlt : j < most := by omega
      have hd := HC.out j hjc
      have hin := isD_lt hd
      have HD := Lib.hid (HG.out (k + j) wr hr.out)
      rw [hd] at HD
      have hb := isD_bd hd
      rw [seeF_in hin] at hb
      have hv := HV.out j (fun i hi => HC.out i (by omega))
      have hp := pow10_le j (by omega)
      have hv1 : numV (seeF N L) k j < 1000000 := by omega
      have hv0 := hv.1
      have HE : Hid (numV (seeF N L) k (j + 1) = numV (seeF N L) k j * 10 + (L (k + j) - 48)) := Lib.hid (by rw [numV, seeF_in hin])
      clear hd hp hv
      generalize numV (seeF N L) k j = v at *
      go_wp2_with fail
      refine (HD.out).mono ?_; rintro e w1 ⟨rfl, hr1⟩
      have HR1 := Lib.hid hr1
      have h3 := hr1.row HO.out hin
      obtain ⟨_, h1, h2, h4⟩ := hr1
      clear HD hr
      have g1 : (0 : Int) ≤ ((k + j : Nat) : Int) := by omega
      have g2 : ((k + j : Nat) : Int) < N := by omega
      generalize L (k + j) = x at *
      have q1 : IntKind.i64.wrap (v * 10) = v * 10 := IntWalk.i64_in _ (by omega)
      have q2 : IntKind.i32.wrap (x - 48) = x - 48 := by rw [IntKind.wrap_i32]; omega
      have q3 : IntKind.i64.wrap (x - 48) = x - 48 := IntWalk.i64_in _ (by omega)
      have q4 : IntKind.i64.wrap (v * 10 + (x - 48)) = v * 10 + (x - 48) := IntWalk.i64_in _ (by omega)
      go_wp2
      go_quiet (fail)
      clear q1 q2 q3 q4
      go_wp2
      go_roundw
      case rel => exact ⟨j + 1, by omega, by go_num, by rw [HE.out], Lib.hid ((HR1.out.drewN _).put' (k + (j + 1)) (by omega))⟩
      case measure => simp [intOf]; omega
    · obtain rfl : j = c := by omega
      have hlt : j < most := by omega
      have hd := HS.out hlt
      have HD := Lib.hid (HG.out (k + j) wr hr.out)
      rw [hd] at HD
      clear hd
      have d1 : decide ((j : Int) < least) = true := by simp; omega
      go_wp2_with fail
      refine (HD.out).mono ?_; rintro e w1 ⟨rfl, hr1⟩
      have HR1 := Lib.hid hr1
      clear hr1 HD
      go_wp2_with fail
      refine (HW.out _ _ HR1.out).mono ?_; rintro e w2 ⟨rfl, h2⟩
      have H2 := Lib.hid h2
      clear h2
      go_wp2
      exact ⟨rfl, rfl, H2.out⟩
/-- What a part of a scan comes to. -/
def OutP (w0 : World) (sb r N cap : Nat) (o : Out) (e : Ending) (w' : World) : Prop :=
  match o with
  | .ok n k => e = .returned (.int .i64 n) ∧ Sc w0 sb r N cap k w'
  | .bad k => Stops w0 sb r N cap k e w'
theorem number_any (ho : ScOk w0 sb r N L) (least most k : Nat) (hm : most ≤ 6) (hlm : least ≤ most) (w : World) (h : Sc w0 sb r N cap k w) :
    Calls Tryd.prog 57 #[.pointer (some ⟨sb, 0, none⟩), .int .i64 least, .int .i64 most] w (OutP w0 sb r N cap (numO (seeF N L) least most k)) := by
  unfold numO
  by_cases c : cnt (seeF N L) most k < least
  · rw [if_pos c]; exact number_no ho least most k hm hlm w h c
  · rw [if_neg c]; exact number_ok ho least most k hm w h (by omega)
end
end Go.Proofs.YtpkifhmnibepiaaDoor
