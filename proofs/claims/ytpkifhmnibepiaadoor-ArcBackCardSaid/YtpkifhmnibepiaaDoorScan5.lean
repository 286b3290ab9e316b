/- The scan of an angle's text: rest. -/
import Derived.Test.YtpkifhmnibepiaaDoorScan4
namespace Go.Proofs.YtpkifhmnibepiaaDoor
open Go.RowKit

section
variable {w0 : World} {sb r N cap : Nat} {L : Nat → Int}
set_option maxHeartbeats 8000000 in
theorem rest_any (ho : ScOk w0 sb r N L) (mn sc : Int) (hmn : 0 ≤ mn) (hsc : 0 ≤ sc) (k : Nat) (w : World) (h : Sc w0 sb r N cap k w) :
    Calls Tryd.prog 60 #[.pointer (some ⟨sb, 0, none⟩), .int .i32 mn, .int .i32 sc] w (OutP w0 sb r N cap (restO (seeF N L) N mn sc k)) := by
  have HO := Lib.hid ho
  have HW := Lib.hid (fun q w h => wrong_any (w0 := w0) (sb := sb) (r := r) (N := N) (cap := cap) q w h)
  have H := Lib.hid h
  have hN := ho.2.1
  obtain ⟨_, h1, h2, _⟩ := h
  clear ho
  by_cases hkN : k = N
  · have d1 : ((k : Int) == N) = true := by simp; omega
    have e : restO (seeF N L) N mn sc k = .ok 0 k := by unfold restO; rw [if_pos hkN]
    have HE := Lib.hid e
    clear e hkN
    go_enter Tryd.func60, Tryd.ntmps60
    go_wp2
    go_quiet (fail)
    go_wp2
    go_ret
    rw [HE.out]
    exact ⟨rfl, H.out.drewN _⟩
  · have d1 : ((k : Int) == N) = false := by simp; omega
    have S1 := Lib.hid (fun w h => sixty_any (cap := cap) HO.out k w h)
    have E0 : Hid (restO (seeF N L) N mn sc k = (match sixtyO (seeF N L) k with | .bad k => .bad k | .ok m k => if seeF N L k = mn then (if k + 1 = N then .ok (m * 60000000) (k + 1) else secO (seeF N L) N sc m (k + 1)) else .bad k)) := Lib.hid (by unfold restO; rw [if_neg hkN]; rfl)
    clear hkN
    go_enter Tryd.func60, Tryd.ntmps60
    go_wp2
    go_quiet (fail)
    go_wp2_with fail
    cases hs1 : sixtyO (seeF N L) k with
    | bad k1 =>
      rw [hs1] at S1 E0
      clear hs1
      refine (S1.out _ (H.out.drewN _)).mono ?_; rintro e w2 ⟨rfl, hr2⟩
      have HR2 := Lib.hid hr2
      clear hr2 S1
      go_wp2
      refine ⟨rfl, ?_⟩
      rw [E0.out]
      exact ⟨rfl, HR2.out⟩
    | ok m k1 =>
      rw [hs1] at S1 E0
      obtain ⟨hm0, hm1, _⟩ := sixtyO_inv hs1
      clear hs1
      refine (S1.out _ (H.out.drewN _)).mono ?_; rintro e w2 ⟨rfl, hr2⟩
      have HR2 := Lib.hid hr2
      clear hr2 S1 H h1 h2 d1
      go_wp2_with fail
      by_cases hy : seeF N L k1 = mn
      · have NY := Lib.hid (fun w h => need_yes (cap := cap) HO.out k1 mn hmn w h hy)
        refine (NY.out _ HR2.out).mono ?_; rintro e w3 ⟨rfl, hlt3, hr3⟩
        have HR3 := Lib.hid hr3
        obtain ⟨_, h1, h2, _⟩ := hr3
        have E1 : Hid (restO (seeF N L) N mn sc k = if k1 + 1 = N then .ok (m * 60000000) (k1 + 1) else secO (seeF N L) N sc m (k1 + 1)) := Lib.hid (by rw [E0.out]; exact if_pos hy)
        clear NY hy E0
        by_cases hend : k1 + 1 = N
        · have d2 : ((k1 : Int) + 1 == N) = true := by simp; omega
          have E2 : Hid (restO (seeF N L) N mn sc k = .ok (m * 60000000) (k1 + 1)) := Lib.hid (by rw [E1.out]; exact if_pos hend)
          clear hend E1
          go_wp2
          go_quiet (fail)
          go_wp2
          go_ret
          rw [E2.out]
          exact ⟨rfl, HR3.out.drewN _⟩
        · have d2 : ((k1 : Int) + 1 == N) = false := by simp; omega
          have E2 : Hid (restO (seeF N L) N mn sc k = (match sixtyO (seeF N L) (k1 + 1) with | .bad k => .bad k | .ok m2 k => if seeF N L k = 46 then (match partO (seeF N L) (k + 1) with | .bad k => .bad k | .ok p k => endO (seeF N L) N sc (m * 60000000 + m2 * 1000000 + p) k) else endO (seeF N L) N sc (m * 60000000 + m2 * 1000000) k)) := Lib.hid (by rw [E1.out]; exact if_neg hend)
          have S2 := Lib.hid (fun w h => sixty_any (cap := cap) HO.out (k1 + 1) w h)
          clear hend E1
          go_wp2
          go_quiet (fail)
          go_wp2_with fail
          cases hs2 : sixtyO (seeF N L) (k1 + 1) with
          | bad k2 =>
            rw [hs2] at S2 E2
            clear hs2
            refine (S2.out _ (HR3.out.drewN _)).mono ?_; rintro e w4 ⟨rfl, hr4⟩
            have HR4 := Lib.hid hr4
            clear hr4 S2
            go_wp2
            refine ⟨rfl, ?_⟩
            rw [E2.out]
            exact ⟨rfl, HR4.out⟩
          | ok m2 k2 =>
            rw [hs2] at S2 E2
            obtain ⟨hm20, hm21, _⟩ := sixtyO_inv hs2
            clear hs2
            refine (S2.out _ (HR3.out.drewN _)).mono ?_; rintro e w4 ⟨rfl, hr4⟩
            have HR4 := Lib.hid hr4
            clear hr4 S2 HR3 h1 h2 d2
            go_wp2_with fail
            by_cases hdot : seeF N L k2 = 46
            · have E3 : Hid (restO (seeF N L) N mn sc k = (match partO (seeF N L) (k2 + 1) with | .bad k => .bad k | .ok p k => endO (seeF N L) N sc (m * 60000000 + m2 * 1000000 + p) k)) := Lib.hid (by rw [E2.out]; exact if_pos hdot)
              have TY := Lib.hid (fun w h => take_yes (cap := cap) HO.out k2 46 (by omega) w h hdot)
              refine (TY.out _ HR4.out).mono ?_; rintro e w5 ⟨rfl, hlt5, hr5⟩
              have HR5 := Lib.hid hr5
              obtain ⟨_, h1, h2, _⟩ := hr5
              have P1 := Lib.hid (fun w h => number_any (cap := cap) HO.out 1 6 (k2 + 1) (by omega) (by omega) w h)
              clear TY hdot E2
              go_wp2_with fail
              cases hp : numO (seeF N L) 1 6 (k2 + 1) with
              | bad k3 =>
                rw [hp] at P1
                have E4 : Hid (restO (seeF N L) N mn sc k = .bad k3) := Lib.hid (by rw [E3.out]; unfold partO; rw [hp])
                clear hp
                refine (P1.out _ HR5.out).mono ?_; rintro e w6 ⟨rfl, hr6⟩
                have HR6 := Lib.hid hr6
                clear hr6 P1
                go_wp2
                refine ⟨rfl, ?_⟩
                rw [E4.out]
                exact ⟨rfl, HR6.out⟩
              | ok p k3 =>
                rw [hp] at P1
                have E4 : Hid (restO (seeF N L) N mn sc k = endO (seeF N L) N sc (m * 60000000 + m2 * 1000000 + p * 10 ^ (6 - (k3 - (k2 + 1)))) k3) := Lib.hid (by rw [E3.out]; unfold partO; rw [hp])
                obtain ⟨c, hc, hk3, hp0, hp1⟩ := numO_inv hp
                clear hp E3
                refine (P1.out _ HR5.out).mono ?_; rintro e w6 ⟨rfl, hr6⟩
                have HR6 := Lib.hid hr6
                obtain ⟨_, h1, h2, _⟩ := hr6
                have hk30 : k3 - (k2 + 1) = c := by omega
                rw [hk30] at E4
                clear P1 HR5
                have hk3a : (k3 : Int) ≤ k2 + 1 + c := by omega
                have hk3b : (k2 : Int) + 1 + c ≤ k3 := by omega
                have HP := Lib.hid (fun j h => pow_bd p c j hp0 hp1 h)
                clear hk3 hk30
                go_wp2
                go_loop [9, 57] (fun part i => ∃ j : Nat, j + c ≤ 6 ∧ i = .int .i64 j ∧ part = .int .i64 (p * 10 ^ j)) (fun _ i => 6 - (intOf i).toNat)
                case atStart => exact ⟨0, by omega, rfl, by simp⟩
                case round =>
                  obtain ⟨j, hj, rfl, rfl⟩ := hrel
                  have hpj := HP.out j (by omega)
                  by_cases hjl : j + c < 6
                  · have hE : Hid (p * 10 ^ (j + 1) = p * 10 ^ j * 10) := Lib.hid (by rw [Int.pow_succ, Int.mul_assoc])
                    have HPJ := Lib.hid hpj
                    obtain ⟨hpj0, hpj1⟩ := hpj
                    generalize p * 10 ^ j = q at *
                    go_wp2
                    go_round
                    case rel => exact ⟨j + 1, by omega, by go_num, by rw [hE.out]⟩
                    case measure => simp [intOf]; omega
                  · obtain rfl : j = 6 - c := by omega
                    obtain ⟨hpj0, hpj1⟩ := hpj
                    generalize p * 10 ^ (6 - c) = q at *

                    by_cases hz : seeF N L k3 = sc
                    · have NY := Lib.hid (fun w h => need_yes (cap := cap) HO.out _ sc hsc w h hz)
                      go_wp2_with fail
                      refine (NY.out _ HR6.out).mono ?_; rintro e w9 ⟨rfl, hlt9, hr9⟩
                      have HR9 := Lib.hid hr9
                      obtain ⟨_, x1, x2, _⟩ := hr9
                      clear NY
                      by_cases hlast : k3 + 1 < N
                      · have d9 : decide ((k3 : Int) + 1 < N) = true := by simp; omega
                        have e : restO (seeF N L) N mn sc k = .bad (k3 + 1) := by rw [E4.out]; unfold endO; rw [if_pos hz, if_pos hlast]
                        have HE := Lib.hid e
                        clear e hz hlast
                        go_wp2
                        go_quiet (fail)
                        go_wp2_with fail
                        refine (HW.out _ _ (HR9.out.drewN _)).mono ?_; rintro e w10 ⟨rfl, hr10⟩
                        have HR10 := Lib.hid hr10
                        clear hr10
                        go_wp2
                        refine ⟨rfl, ?_⟩
                        rw [HE.out]
                        exact ⟨rfl, HR10.out⟩
                      · have d9 : decide ((k3 : Int) + 1 < N) = false := by simp; omega
                        have e : restO (seeF N L) N mn sc k = .ok (m * 60000000 + m2 * 1000000 + q) (k3 + 1) := by rw [E4.out]; unfold endO; rw [if_pos hz, if_neg hlast]
                        have HE := Lib.hid e
                        clear e hz hlast
                        go_wp2
                        go_quiet (fail)
                        go_wp2
                        go_ret
                        rw [HE.out]
                        exact ⟨rfl, HR9.out.drewN _⟩
                    · have NN := Lib.hid (fun w h => need_no (cap := cap) HO.out _ sc w h hz)
                      have e : restO (seeF N L) N mn sc k = .bad k3 := by rw [E4.out]; unfold endO; rw [if_neg hz]
                      have HE := Lib.hid e
                      clear e hz
                      go_wp2_with fail
                      refine (NN.out _ HR6.out).mono ?_; rintro e w9 ⟨rfl, hr9⟩
                      have HR9 := Lib.hid hr9
                      clear hr9 NN
                      go_wp2
                      refine ⟨rfl, ?_⟩
                      rw [HE.out]
                      exact ⟨rfl, HR9.out⟩
            · have E3 : Hid (restO (seeF N L) N mn sc k = endO (seeF N L) N sc (m * 60000000 + m2 * 1000000) k2) := Lib.hid (by rw [E2.out]; exact if_neg hdot)
              have TN := Lib.hid (fun w h => take_no (cap := cap) HO.out k2 46 w h hdot)
              refine (TN.out _ HR4.out).mono ?_; rintro e w5 ⟨rfl, hr5⟩
              have HR5 := Lib.hid hr5
              clear hr5 TN hdot E2 HR4
              by_cases hz : seeF N L k2 = sc
              · have NY := Lib.hid (fun w h => need_yes (cap := cap) HO.out _ sc hsc w h hz)
                go_wp2_with fail
                refine (NY.out _ HR5.out).mono ?_; rintro e w9 ⟨rfl, hlt9, hr9⟩
                have HR9 := Lib.hid hr9
                obtain ⟨_, x1, x2, _⟩ := hr9
                clear NY
                by_cases hlast : k2 + 1 < N
                · have d9 : decide ((k2 : Int) + 1 < N) = true := by simp; omega
                  have e : restO (seeF N L) N mn sc k = .bad (k2 + 1) := by rw [E3.out]; unfold endO; rw [if_pos hz, if_pos hlast]
                  have HE := Lib.hid e
                  clear e hz hlast
                  go_wp2
                  go_quiet (fail)
                  go_wp2_with fail
                  refine (HW.out _ _ (HR9.out.drewN _)).mono ?_; rintro e w10 ⟨rfl, hr10⟩
                  have HR10 := Lib.hid hr10
                  clear hr10
                  go_wp2
                  refine ⟨rfl, ?_⟩
                  rw [HE.out]
                  exact ⟨rfl, HR10.out⟩
                · have d9 : decide ((k2 : Int) + 1 < N) = false := by simp; omega
                  have e : restO (seeF N L) N mn sc k = .ok (m * 60000000 + m2 * 1000000) (k2 + 1) := by rw [E3.out]; unfold endO; rw [if_pos hz, if_neg hlast]
                  have HE := Lib.hid e
                  clear e hz hlast
                  go_wp2
                  go_quiet (fail)
                  go_wp2
                  go_ret
                  rw [HE.out]
                  exact ⟨rfl, HR9.out.drewN _⟩
              · have NN := Lib.hid (fun w h => need_no (cap := cap) HO.out _ sc w h hz)
                have e : restO (seeF N L) N mn sc k = .bad k2 := by rw [E3.out]; unfold endO; rw [if_neg hz]
                have HE := Lib.hid e
                clear e hz
                go_wp2_with fail
                refine (NN.out _ HR5.out).mono ?_; rintro e w9 ⟨rfl, hr9⟩
                have HR9 := Lib.hid hr9
                clear hr9 NN
                go_wp2
                refine ⟨rfl, ?_⟩
                rw [HE.out]
                exact ⟨rfl, HR9.out⟩
      · have NN := Lib.hid (fun w h => need_no (cap := cap) HO.out k1 mn w h hy)
        have e : restO (seeF N L) N mn sc k = .bad k1 := by rw [E0.out]; exact if_neg hy
        have HE := Lib.hid e
        clear e hy
        refine (NN.out _ HR2.out).mono ?_; rintro e w3 ⟨rfl, hr3⟩
        have HR3 := Lib.hid hr3
        clear hr3 NN
        go_wp2
        refine ⟨rfl, ?_⟩
        rw [HE.out]
        exact ⟨rfl, HR3.out⟩
end
end Go.Proofs.YtpkifhmnibepiaaDoor
