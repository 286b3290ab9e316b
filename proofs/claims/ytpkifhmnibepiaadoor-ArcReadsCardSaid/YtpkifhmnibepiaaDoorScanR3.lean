/- The reference's scan: rest. -/
import Derived.Test.YtpkifhmnibepiaaDoorScanR2
import Derived.Test.YtpkifhmnibepiaaDoorScan4
namespace Go.Proofs.YtpkifhmnibepiaaDoor
open Go.RowKit

section
variable (s : Nat → Int)
def sixtyR (k : Nat) (bad : Int) : Int × Nat × Int :=
  (numV s k (cnt s 2 k), k + cnt s 2 k, if 59 < numV s k (cnt s 2 k) then wrB (nb 2 (cnt s 2 k) bad (k + cnt s 2 k)) k else nb 2 (cnt s 2 k) bad (k + cnt s 2 k))
def endR (N : Nat) (sc n : Int) (k : Nat) (bad : Int) : Int × Nat × Int := (n, k + 1, if k + 1 < N then wrB (needB s sc k bad) (k + 1 : Nat) else needB s sc k bad)
def secR (N : Nat) (sc n1 : Int) (k : Nat) (bad : Int) : Int × Nat × Int :=
  if s (sixtyR s k bad).2.1 = 46 then
    endR s N sc (n1 + (sixtyR s k bad).1 * 1000000 + numV s ((sixtyR s k bad).2.1 + 1) (cnt s 6 ((sixtyR s k bad).2.1 + 1)) * 10 ^ (6 - cnt s 6 ((sixtyR s k bad).2.1 + 1))) ((sixtyR s k bad).2.1 + 1 + cnt s 6 ((sixtyR s k bad).2.1 + 1)) (nb 1 (cnt s 6 ((sixtyR s k bad).2.1 + 1)) (sixtyR s k bad).2.2 ((sixtyR s k bad).2.1 + 1 + cnt s 6 ((sixtyR s k bad).2.1 + 1)))
  else endR s N sc (n1 + (sixtyR s k bad).1 * 1000000) (sixtyR s k bad).2.1 (sixtyR s k bad).2.2
def restR (N : Nat) (mn sc : Int) (k : Nat) (bad : Int) : Int × Nat × Int :=
  if N ≤ k ∨ 0 ≤ bad then (0, k, bad) else
  if N ≤ (sixtyR s k bad).2.1 + 1 ∨ 0 ≤ needB s mn (sixtyR s k bad).2.1 (sixtyR s k bad).2.2 then ((sixtyR s k bad).1 * 60 * 1000000, (sixtyR s k bad).2.1 + 1, needB s mn (sixtyR s k bad).2.1 (sixtyR s k bad).2.2) else
  secR s N sc ((sixtyR s k bad).1 * 60 * 1000000) ((sixtyR s k bad).2.1 + 1) (needB s mn (sixtyR s k bad).2.1 (sixtyR s k bad).2.2)
end
section
variable {s : Nat → Int}
theorem sixtyR_hi {k c : Nat} {bad m b : Int} (hc : cnt s 2 k = c) (hm : numV s k c = m) (hb : nb 2 c bad (k + c) = b) (h : 59 < m) : sixtyR s k bad = (m, k + c, wrB b k) := by
  unfold sixtyR; rw [hc, hm, hb, if_pos h]
theorem sixtyR_lo {k c : Nat} {bad m b : Int} (hc : cnt s 2 k = c) (hm : numV s k c = m) (hb : nb 2 c bad (k + c) = b) (h : ¬ 59 < m) : sixtyR s k bad = (m, k + c, b) := by
  unfold sixtyR; rw [hc, hm, hb, if_neg h]
theorem restR_end {N : Nat} {mn sc bad m b b2 : Int} {k k1 : Nat} (h0 : ¬ (N ≤ k ∨ 0 ≤ bad)) (h6 : sixtyR s k bad = (m, k1, b)) (hb : needB s mn k1 b = b2) (h : N ≤ k1 + 1 ∨ 0 ≤ b2) : restR s N mn sc k bad = (m * 60 * 1000000, k1 + 1, b2) := by
  unfold restR; rw [if_neg h0, h6]; simp only; rw [hb, if_pos h]
theorem restR_sec {N : Nat} {mn sc bad m b b2 : Int} {k k1 : Nat} (h0 : ¬ (N ≤ k ∨ 0 ≤ bad)) (h6 : sixtyR s k bad = (m, k1, b)) (hb : needB s mn k1 b = b2) (h : ¬ (N ≤ k1 + 1 ∨ 0 ≤ b2)) : restR s N mn sc k bad = secR s N sc (m * 60 * 1000000) (k1 + 1) b2 := by
  unfold restR; rw [if_neg h0, h6]; simp only; rw [hb, if_neg h]
theorem secR_no {N : Nat} {sc bad n1 m b : Int} {k k3 : Nat} (h6 : sixtyR s k bad = (m, k3, b)) (hd : ¬ s k3 = 46) : secR s N sc n1 k bad = endR s N sc (n1 + m * 1000000) k3 b := by
  unfold secR; rw [h6]; simp only; rw [if_neg hd]
theorem secR_dot {N : Nat} {sc bad n1 m b p b4 : Int} {k k3 c : Nat} (h6 : sixtyR s k bad = (m, k3, b)) (hd : s k3 = 46) (hc : cnt s 6 (k3 + 1) = c) (hp : numV s (k3 + 1) c = p) (hb : nb 1 c b (k3 + 1 + c) = b4) : secR s N sc n1 k bad = endR s N sc (n1 + m * 1000000 + p * 10 ^ (6 - c)) (k3 + 1 + c) b4 := by
  unfold secR; rw [h6]; simp only; rw [if_pos hd, hc, hp, hb]
theorem endR_more {N : Nat} {sc n bad b : Int} {k : Nat} (hb : needB s sc k bad = b) (h : k + 1 < N) : endR s N sc n k bad = (n, k + 1, wrB b (k + 1 : Nat)) := by
  unfold endR; rw [hb, if_pos h]
theorem endR_fine {N : Nat} {sc n bad b : Int} {k : Nat} (hb : needB s sc k bad = b) (h : ¬ k + 1 < N) : endR s N sc n k bad = (n, k + 1, b) := by
  unfold endR; rw [hb, if_neg h]
end

section
variable {w0 : World} {sb : Nat} {a : Option Addr} {N cap : Nat} {L : Nat → Int}
/-- What a part of the reference's scan comes to. -/
def RestP (w0 : World) (sb : Nat) (a : Option Addr) (N cap : Nat) (r : Int × Nat × Int) (e : Ending) (w' : World) : Prop := e = .returned (.int .i64 r.1) ∧ Rs w0 sb a N cap r.2.1 r.2.2 w'

set_option maxRecDepth 20000 in
set_option maxHeartbeats 32000000 in
theorem restR_any (ho : RsOk w0 sb a N L) (mn sc : Int) (k : Nat) (hk : k ≤ 1000100) (bad : Int) (w : World) (h : Rs w0 sb a N cap k bad w) :
    Calls Tryd.prog 67 #[.pointer (some ⟨sb, 0, none⟩), .int .i64 mn, .int .i64 sc] w (RestP w0 sb a N cap (restR (seeF N L) N mn sc k bad)) := by
  have HO := Lib.hid ho
  have R0 := Lib.hid h
  have hN := ho.1
  obtain ⟨_, x1, x2, x3, _⟩ := h
  clear ho
  by_cases h1 : N ≤ k
  · have d1 : (N : Int) ≤ k := by omega
    have d1n : decide (N ≤ k) = true := by simpa using h1
    have d1z : decide ((N : Int) ≤ k) = true := by simpa using d1
    have E0 : Hid (restR (seeF N L) N mn sc k bad = (0, k, bad)) := Lib.hid (if_pos (Or.inl h1))
    clear h1
    go_enter Tryd.func67, Tryd.ntmps67
    go_wp2
    go_quiet (fail)
    go_wp2
    go_ret
    rw [E0.out]
    exact ⟨rfl, R0.out.drewN _⟩
  · have d1 : (k : Int) < N := by omega
    have d1n : decide (N ≤ k) = false := by simpa using d1
    have d1z : decide ((N : Int) ≤ k) = false := by simpa using d1
    by_cases h2 : 0 ≤ bad
    · have E0 : Hid (restR (seeF N L) N mn sc k bad = (0, k, bad)) := Lib.hid (if_pos (Or.inr h2))
      have d2 : decide (0 ≤ bad) = true := by simpa using h2
      clear h1
      go_enter Tryd.func67, Tryd.ntmps67
      go_wp2
      go_quiet (fail)
      go_wp2
      go_ret
      rw [E0.out]
      exact ⟨rfl, R0.out.drewN _⟩
    · have d2 : decide (0 ≤ bad) = false := by simpa using h2
      have HN0 := Lib.hid (fun h : N ≤ k ∨ 0 ≤ bad => h.elim h1 h2)
      clear h1 h2
      go_enter Tryd.func67, Tryd.ntmps67
      go_wp2
      go_quiet (fail)
      go_wp2_with fail
      have P1 := numberR_any (cap := cap) HO.out 2 2 k (by omega) (by omega) bad _ (R0.out.drewN nq)
      have hcb1 := cnt_le (seeF N L) 2 k
      have hvb1 := numV_bd (seeF N L) k (cnt (seeF N L) 2 k) (fun j hj => cnt_digit (seeF N L) 2 k j hj)
      generalize hc1 : cnt (seeF N L) 2 k = c1 at *
      generalize hm1 : numV (seeF N L) k c1 = m1 at *
      generalize hb1 : nb 2 c1 bad (k + c1) = b1 at *
      have hp1 := pow10_le c1 (by omega)
      have hm10 : 0 ≤ m1 := hvb1.1
      have hm11 : m1 < 1000000 := by have := hvb1.2; omega
      have HC1 := Lib.hid hc1
      have HM1 := Lib.hid hm1
      have HB1 := Lib.hid hb1
      have HP1 := Lib.hid hvb1
      refine P1.mono ?_; rintro e w1 ⟨rfl, h1⟩
      have R1 := Lib.hid h1
      clear P1 h1 hc1 hm1 hb1 hvb1 hp1
      clear x1 x2 x3 d2 R0 d1n d1z
      by_cases h59 : 59 < m1
      · have S1 := Lib.hid (sixtyR_hi HC1.out HM1.out HB1.out h59)
        go_wp2_with fail
        refine (wrongR_any _ _ (k : Int) _ R1.out).mono ?_; rintro e w8 ⟨rfl, h8⟩
        have R8 := Lib.hid h8
        clear h8
        generalize wrB b1 (k : Int) = b8 at *
        go_wp2_with fail
        have hn2 := needR_any (cap := cap) HO.out (k + c1) (by omega) b8 mn _ R8.out
        generalize hb2 : needB (seeF N L) mn (k + c1) b8 = b2 at *
        have HB2 := Lib.hid hb2
        refine hn2.mono ?_; rintro e w2 ⟨rfl, h2⟩
        have R2 := Lib.hid h2
        obtain ⟨_, x1, x2, x3, _⟩ := h2
        clear hn2 hb2
        by_cases h21 : N ≤ k + c1 + 1
        · have d2 : (N : Int) ≤ (k : Int) + c1 + 1 := by omega
          have d2n : decide (N ≤ k + c1 + 1) = true := by simpa using h21
          have d2z : decide ((N : Int) ≤ (k : Int) + c1 + 1) = true := by simpa using d2
          have E2 : Hid (restR (seeF N L) N mn sc k bad = (m1 * 60 * 1000000, k + c1 + 1, b2)) := Lib.hid (restR_end HN0.out S1.out HB2.out (Or.inl h21))
          clear h21
          go_wp2
          go_quiet (fail)
          go_wp2
          go_ret
          rw [E2.out]
          exact ⟨rfl, R2.out.drewN _⟩
        · have d2 : (k : Int) + c1 + 1 < N := by omega
          have d2n : decide (N ≤ k + c1 + 1) = false := by simp; omega
          have d2z : decide ((N : Int) ≤ (k : Int) + c1 + 1) = false := by simpa using d2
          by_cases h22 : 0 ≤ b2
          · have E2 : Hid (restR (seeF N L) N mn sc k bad = (m1 * 60 * 1000000, k + c1 + 1, b2)) := Lib.hid (restR_end HN0.out S1.out HB2.out (Or.inr h22))
            have d22 : decide (0 ≤ b2) = true := by simpa using h22
            clear h21
            go_wp2
            go_quiet (fail)
            go_wp2
            go_ret
            rw [E2.out]
            exact ⟨rfl, R2.out.drewN _⟩
          · have E2 : Hid (restR (seeF N L) N mn sc k bad = secR (seeF N L) N sc (m1 * 60 * 1000000) (k + c1 + 1) b2) := Lib.hid (restR_sec HN0.out S1.out HB2.out (fun h => h.elim h21 h22))
            have d22 : decide (0 ≤ b2) = false := by simpa using h22
            clear h21 h22
            go_wp2
            go_quiet (fail)
            go_wp2_with fail
            have P3 := numberR_any (cap := cap) HO.out 2 2 (k + c1 + 1) (by omega) (by omega) b2 _ (R2.out.drewN nq)
            have hcb3 := cnt_le (seeF N L) 2 (k + c1 + 1)
            have hvb3 := numV_bd (seeF N L) (k + c1 + 1) (cnt (seeF N L) 2 (k + c1 + 1)) (fun j hj => cnt_digit (seeF N L) 2 (k + c1 + 1) j hj)
            generalize hc3 : cnt (seeF N L) 2 (k + c1 + 1) = c3 at *
            generalize hm3 : numV (seeF N L) (k + c1 + 1) c3 = m3 at *
            generalize hb3 : nb 2 c3 b2 ((k + c1 + 1) + c3) = b3 at *
            have hp3 := pow10_le c3 (by omega)
            have hm30 : 0 ≤ m3 := hvb3.1
            have hm31 : m3 < 1000000 := by have := hvb3.2; omega
            have HC3 := Lib.hid hc3
            have HM3 := Lib.hid hm3
            have HB3 := Lib.hid hb3
            have HP3 := Lib.hid hvb3
            refine P3.mono ?_; rintro e w3 ⟨rfl, h3⟩
            have R3 := Lib.hid h3
            clear P3 h3 hc3 hm3 hb3 hvb3 hp3
            clear x1 x2 x3 d22 d2n d2z
            by_cases h359 : 59 < m3
            · have S6 := Lib.hid (sixtyR_hi HC3.out HM3.out HB3.out h359)
              go_wp2_with fail
              refine (wrongR_any _ _ ((k + c1 + 1 : Nat) : Int) _ R3.out).mono ?_; rintro e w4 ⟨rfl, h4⟩
              have R4 := Lib.hid h4
              clear h4
              generalize wrB b3 ((k + c1 + 1 : Nat) : Int) = b4 at *
              have hs := see_any (cap := cap) HO.out (k + c1 + 1 + c3) (by omega) b4 _ R4.out
              go_wp2_with fail
              refine hs.mono ?_; rintro e w6 ⟨rfl, h6⟩
              have R6 := Lib.hid h6
              obtain ⟨_, _, x1, _, x2, _⟩ := h6
              clear hs
              by_cases hd : seeF N L (k + c1 + 1 + c3) = 46
              · have d6 : (seeF N L (k + c1 + 1 + c3) == 46) = true := by simpa using hd
                have HDD := Lib.hid hd
                clear hd
                go_wp2_with fail
                have R7 := Lib.hid (R6.out.at (k + c1 + 1 + c3 + 1) (z := (k + c1 + 1 + c3 : Nat) + 1) (by omega))
                clear x1 x2 d6
                have P7 := numberR_any (cap := cap) HO.out 1 6 (k + c1 + 1 + c3 + 1) (by omega) (by omega) b4 _ (by simpa using R7.out)
                have hcb7 := cnt_le (seeF N L) 6 (k + c1 + 1 + c3 + 1)
                have hvb7 := numV_bd (seeF N L) (k + c1 + 1 + c3 + 1) (cnt (seeF N L) 6 (k + c1 + 1 + c3 + 1)) (fun j hj => cnt_digit (seeF N L) 6 (k + c1 + 1 + c3 + 1) j hj)
                generalize hc7 : cnt (seeF N L) 6 (k + c1 + 1 + c3 + 1) = c7 at *
                generalize hm7 : numV (seeF N L) (k + c1 + 1 + c3 + 1) c7 = m7 at *
                generalize hb7 : nb 1 c7 b4 ((k + c1 + 1 + c3 + 1) + c7) = b7 at *
                have hp7 := pow10_le c7 (by omega)
                have hm70 : 0 ≤ m7 := hvb7.1
                have hm71 : m7 < 1000000 := by have := hvb7.2; omega
                have HC7 := Lib.hid hc7
                have HM7 := Lib.hid hm7
                have HB7 := Lib.hid hb7
                have HP7 := Lib.hid hvb7
                refine P7.mono ?_; rintro e w7 ⟨rfl, h7⟩
                have R7 := Lib.hid h7
                clear P7 h7 hc7 hm7 hb7 hvb7 hp7
                have E7 : Hid (restR (seeF N L) N mn sc k bad = endR (seeF N L) N sc (m1 * 60 * 1000000 + m3 * 1000000 + m7 * 10 ^ (6 - c7)) (k + c1 + 1 + c3 + 1 + c7) b7) := Lib.hid (by rw [E2.out]; exact secR_dot S6.out HDD.out HC7.out HM7.out HB7.out)
                have HQ := Lib.hid (fun j h => pow_bd m7 c7 j HP7.out.1 HP7.out.2 h)
                go_wp2
                go_loop [11, 12] (fun part i => ∃ j : Nat, j + c7 ≤ 6 ∧ i = .int .i64 ((c7 : Int) + j) ∧ part = .int .i64 (m7 * 10 ^ j)) (fun _ i => 6 - (intOf i).toNat)
                case atStart => exact ⟨0, by omega, by simp, by simp⟩
                case round =>
                  obtain ⟨j, hj, rfl, rfl⟩ := hrel
                  have hpj := HQ.out j (by omega)
                  by_cases hjl : j + c7 < 6
                  · have hE : Hid (m7 * 10 ^ (j + 1) = m7 * 10 ^ j * 10) := Lib.hid (by rw [Int.pow_succ, Int.mul_assoc])
                    obtain ⟨hpj0, hpj1⟩ := hpj
                    generalize m7 * 10 ^ j = q at *
                    go_wp2
                    go_round
                    case rel => exact ⟨j + 1, by omega, by go_num, by rw [hE.out]⟩
                    case measure => simp [intOf]; omega
                  · obtain rfl : j = 6 - c7 := by omega
                    obtain ⟨hpj0, hpj1⟩ := hpj
                    generalize m7 * 10 ^ (6 - c7) = q at *
                    go_wp2_with fail
                    have hn9 := needR_any (cap := cap) HO.out (k + c1 + 1 + c3 + 1 + c7) (by omega) b7 sc _ R7.out
                    generalize hb9 : needB (seeF N L) sc (k + c1 + 1 + c3 + 1 + c7) b7 = b9 at *
                    have HB9 := Lib.hid hb9
                    refine hn9.mono ?_; rintro e w9 ⟨rfl, h9⟩
                    have R9 := Lib.hid h9
                    obtain ⟨_, x1, x2, _⟩ := h9
                    clear hn9 hb9
                    by_cases hl : k + c1 + 1 + c3 + 1 + c7 + 1 < N
                    · have E9 : Hid (restR (seeF N L) N mn sc k bad = (m1 * 60 * 1000000 + m3 * 1000000 + q, k + c1 + 1 + c3 + 1 + c7 + 1, wrB b9 (k + c1 + 1 + c3 + 1 + c7 + 1 : Nat))) := Lib.hid (by rw [E7.out]; exact endR_more HB9.out hl)
                      have d9 : (((k + c1 + 1 + c3 + 1 + c7 + 1 : Nat) : Int)) < N := by omega
                      clear hl
                      go_wp2
                      go_quiet (fail)
                      go_wp2_with fail
                      refine (wrongR_any _ _ _ _ (R9.out.drewN _)).mono ?_; rintro e w10 ⟨rfl, h10⟩
                      have R10 := Lib.hid h10
                      clear h10
                      go_wp2
                      go_ret
                      rw [E9.out]
                      exact ⟨rfl, R10.out⟩
                    · have E9 : Hid (restR (seeF N L) N mn sc k bad = (m1 * 60 * 1000000 + m3 * 1000000 + q, k + c1 + 1 + c3 + 1 + c7 + 1, b9)) := Lib.hid (by rw [E7.out]; exact endR_fine HB9.out hl)
                      have d9 : (N : Int) ≤ ((k + c1 + 1 + c3 + 1 + c7 + 1 : Nat) : Int) := by omega
                      clear hl
                      go_wp2
                      go_quiet (fail)
                      go_wp2
                      go_ret
                      rw [E9.out]
                      exact ⟨rfl, R9.out.drewN _⟩
              · have d6 : (seeF N L (k + c1 + 1 + c3) == 46) = false := by simpa using hd
                have E7 : Hid (restR (seeF N L) N mn sc k bad = endR (seeF N L) N sc (m1 * 60 * 1000000 + m3 * 1000000) (k + c1 + 1 + c3) b4) := Lib.hid (by rw [E2.out]; exact secR_no S6.out hd)
                clear hd x1 x2
                generalize seeF N L (k + c1 + 1 + c3) = xx at *
                go_wp2_with fail
                have hn9 := needR_any (cap := cap) HO.out (k + c1 + 1 + c3) (by omega) b4 sc _ R6.out
                generalize hb9 : needB (seeF N L) sc (k + c1 + 1 + c3) b4 = b9 at *
                have HB9 := Lib.hid hb9
                refine hn9.mono ?_; rintro e w9 ⟨rfl, h9⟩
                have R9 := Lib.hid h9
                obtain ⟨_, x1, x2, _⟩ := h9
                clear hn9 hb9
                by_cases hl : k + c1 + 1 + c3 + 1 < N
                · have E9 : Hid (restR (seeF N L) N mn sc k bad = (m1 * 60 * 1000000 + m3 * 1000000, k + c1 + 1 + c3 + 1, wrB b9 (k + c1 + 1 + c3 + 1 : Nat))) := Lib.hid (by rw [E7.out]; exact endR_more HB9.out hl)
                  have d9 : (((k + c1 + 1 + c3 + 1 : Nat) : Int)) < N := by omega
                  clear hl
                  go_wp2
                  go_quiet (fail)
                  go_wp2_with fail
                  refine (wrongR_any _ _ _ _ (R9.out.drewN _)).mono ?_; rintro e w10 ⟨rfl, h10⟩
                  have R10 := Lib.hid h10
                  clear h10
                  go_wp2
                  go_ret
                  rw [E9.out]
                  exact ⟨rfl, R10.out⟩
                · have E9 : Hid (restR (seeF N L) N mn sc k bad = (m1 * 60 * 1000000 + m3 * 1000000, k + c1 + 1 + c3 + 1, b9)) := Lib.hid (by rw [E7.out]; exact endR_fine HB9.out hl)
                  have d9 : (N : Int) ≤ ((k + c1 + 1 + c3 + 1 : Nat) : Int) := by omega
                  clear hl
                  go_wp2
                  go_quiet (fail)
                  go_wp2
                  go_ret
                  rw [E9.out]
                  exact ⟨rfl, R9.out.drewN _⟩
            · have S6 := Lib.hid (sixtyR_lo HC3.out HM3.out HB3.out h359)
              have hs := see_any (cap := cap) HO.out (k + c1 + 1 + c3) (by omega) b3 _ R3.out
              go_wp2_with fail
              refine hs.mono ?_; rintro e w6 ⟨rfl, h6⟩
              have R6 := Lib.hid h6
              obtain ⟨_, _, x1, _, x2, _⟩ := h6
              clear hs
              by_cases hd : seeF N L (k + c1 + 1 + c3) = 46
              · have d6 : (seeF N L (k + c1 + 1 + c3) == 46) = true := by simpa using hd
                have HDD := Lib.hid hd
                clear hd
                go_wp2_with fail
                have R7 := Lib.hid (R6.out.at (k + c1 + 1 + c3 + 1) (z := (k + c1 + 1 + c3 : Nat) + 1) (by omega))
                clear x1 x2 d6
                have P7 := numberR_any (cap := cap) HO.out 1 6 (k + c1 + 1 + c3 + 1) (by omega) (by omega) b3 _ (by simpa using R7.out)
                have hcb7 := cnt_le (seeF N L) 6 (k + c1 + 1 + c3 + 1)
                have hvb7 := numV_bd (seeF N L) (k + c1 + 1 + c3 + 1) (cnt (seeF N L) 6 (k + c1 + 1 + c3 + 1)) (fun j hj => cnt_digit (seeF N L) 6 (k + c1 + 1 + c3 + 1) j hj)
                generalize hc7 : cnt (seeF N L) 6 (k + c1 + 1 + c3 + 1) = c7 at *
                generalize hm7 : numV (seeF N L) (k + c1 + 1 + c3 + 1) c7 = m7 at *
                generalize hb7 : nb 1 c7 b3 ((k + c1 + 1 + c3 + 1) + c7) = b7 at *
                have hp7 := pow10_le c7 (by omega)
                have hm70 : 0 ≤ m7 := hvb7.1
                have hm71 : m7 < 1000000 := by have := hvb7.2; omega
                have HC7 := Lib.hid hc7
                have HM7 := Lib.hid hm7
                have HB7 := Lib.hid hb7
                have HP7 := Lib.hid hvb7
                refine P7.mono ?_; rintro e w7 ⟨rfl, h7⟩
                have R7 := Lib.hid h7
                clear P7 h7 hc7 hm7 hb7 hvb7 hp7
                have E7 : Hid (restR (seeF N L) N mn sc k bad = endR (seeF N L) N sc (m1 * 60 * 1000000 + m3 * 1000000 + m7 * 10 ^ (6 - c7)) (k + c1 + 1 + c3 + 1 + c7) b7) := Lib.hid (by rw [E2.out]; exact secR_dot S6.out HDD.out HC7.out HM7.out HB7.out)
                have HQ := Lib.hid (fun j h => pow_bd m7 c7 j HP7.out.1 HP7.out.2 h)
                go_wp2
                go_loop [11, 12] (fun part i => ∃ j : Nat, j + c7 ≤ 6 ∧ i = .int .i64 ((c7 : Int) + j) ∧ part = .int .i64 (m7 * 10 ^ j)) (fun _ i => 6 - (intOf i).toNat)
                case atStart => exact ⟨0, by omega, by simp, by simp⟩
                case round =>
                  obtain ⟨j, hj, rfl, rfl⟩ := hrel
                  have hpj := HQ.out j (by omega)
                  by_cases hjl : j + c7 < 6
                  · have hE : Hid (m7 * 10 ^ (j + 1) = m7 * 10 ^ j * 10) := Lib.hid (by rw [Int.pow_succ, Int.mul_assoc])
                    obtain ⟨hpj0, hpj1⟩ := hpj
                    generalize m7 * 10 ^ j = q at *
                    go_wp2
                    go_round
                    case rel => exact ⟨j + 1, by omega, by go_num, by rw [hE.out]⟩
                    case measure => simp [intOf]; omega
                  · obtain rfl : j = 6 - c7 := by omega
                    obtain ⟨hpj0, hpj1⟩ := hpj
                    generalize m7 * 10 ^ (6 - c7) = q at *
                    go_wp2_with fail
                    have hn9 := needR_any (cap := cap) HO.out (k + c1 + 1 + c3 + 1 + c7) (by omega) b7 sc _ R7.out
                    generalize hb9 : needB (seeF N L) sc (k + c1 + 1 + c3 + 1 + c7) b7 = b9 at *
                    have HB9 := Lib.hid hb9
                    refine hn9.mono ?_; rintro e w9 ⟨rfl, h9⟩
                    have R9 := Lib.hid h9
                    obtain ⟨_, x1, x2, _⟩ := h9
                    clear hn9 hb9
                    by_cases hl : k + c1 + 1 + c3 + 1 + c7 + 1 < N
                    · have E9 : Hid (restR (seeF N L) N mn sc k bad = (m1 * 60 * 1000000 + m3 * 1000000 + q, k + c1 + 1 + c3 + 1 + c7 + 1, wrB b9 (k + c1 + 1 + c3 + 1 + c7 + 1 : Nat))) := Lib.hid (by rw [E7.out]; exact endR_more HB9.out hl)
                      have d9 : (((k + c1 + 1 + c3 + 1 + c7 + 1 : Nat) : Int)) < N := by omega
                      clear hl
                      go_wp2
                      go_quiet (fail)
                      go_wp2_with fail
                      refine (wrongR_any _ _ _ _ (R9.out.drewN _)).mono ?_; rintro e w10 ⟨rfl, h10⟩
                      have R10 := Lib.hid h10
                      clear h10
                      go_wp2
                      go_ret
                      rw [E9.out]
                      exact ⟨rfl, R10.out⟩
                    · have E9 : Hid (restR (seeF N L) N mn sc k bad = (m1 * 60 * 1000000 + m3 * 1000000 + q, k + c1 + 1 + c3 + 1 + c7 + 1, b9)) := Lib.hid (by rw [E7.out]; exact endR_fine HB9.out hl)
                      have d9 : (N : Int) ≤ ((k + c1 + 1 + c3 + 1 + c7 + 1 : Nat) : Int) := by omega
                      clear hl
                      go_wp2
                      go_quiet (fail)
                      go_wp2
                      go_ret
                      rw [E9.out]
                      exact ⟨rfl, R9.out.drewN _⟩
              · have d6 : (seeF N L (k + c1 + 1 + c3) == 46) = false := by simpa using hd
                have E7 : Hid (restR (seeF N L) N mn sc k bad = endR (seeF N L) N sc (m1 * 60 * 1000000 + m3 * 1000000) (k + c1 + 1 + c3) b3) := Lib.hid (by rw [E2.out]; exact secR_no S6.out hd)
                clear hd x1 x2
                generalize seeF N L (k + c1 + 1 + c3) = xx at *
                go_wp2_with fail
                have hn9 := needR_any (cap := cap) HO.out (k + c1 + 1 + c3) (by omega) b3 sc _ R6.out
                generalize hb9 : needB (seeF N L) sc (k + c1 + 1 + c3) b3 = b9 at *
                have HB9 := Lib.hid hb9
                refine hn9.mono ?_; rintro e w9 ⟨rfl, h9⟩
                have R9 := Lib.hid h9
                obtain ⟨_, x1, x2, _⟩ := h9
                clear hn9 hb9
                by_cases hl : k + c1 + 1 + c3 + 1 < N
                · have E9 : Hid (restR (seeF N L) N mn sc k bad = (m1 * 60 * 1000000 + m3 * 1000000, k + c1 + 1 + c3 + 1, wrB b9 (k + c1 + 1 + c3 + 1 : Nat))) := Lib.hid (by rw [E7.out]; exact endR_more HB9.out hl)
                  have d9 : (((k + c1 + 1 + c3 + 1 : Nat) : Int)) < N := by omega
                  clear hl
                  go_wp2
                  go_quiet (fail)
                  go_wp2_with fail
                  refine (wrongR_any _ _ _ _ (R9.out.drewN _)).mono ?_; rintro e w10 ⟨rfl, h10⟩
                  have R10 := Lib.hid h10
                  clear h10
                  go_wp2
                  go_ret
                  rw [E9.out]
                  exact ⟨rfl, R10.out⟩
                · have E9 : Hid (restR (seeF N L) N mn sc k bad = (m1 * 60 * 1000000 + m3 * 1000000, k + c1 + 1 + c3 + 1, b9)) := Lib.hid (by rw [E7.out]; exact endR_fine HB9.out hl)
                  have d9 : (N : Int) ≤ ((k + c1 + 1 + c3 + 1 : Nat) : Int) := by omega
                  clear hl
                  go_wp2
                  go_quiet (fail)
                  go_wp2
                  go_ret
                  rw [E9.out]
                  exact ⟨rfl, R9.out.drewN _⟩
      · have S1 := Lib.hid (sixtyR_lo HC1.out HM1.out HB1.out h59)
        go_wp2_with fail
        have hn2 := needR_any (cap := cap) HO.out (k + c1) (by omega) b1 mn _ R1.out
        generalize hb2 : needB (seeF N L) mn (k + c1) b1 = b2 at *
        have HB2 := Lib.hid hb2
        refine hn2.mono ?_; rintro e w2 ⟨rfl, h2⟩
        have R2 := Lib.hid h2
        obtain ⟨_, x1, x2, x3, _⟩ := h2
        clear hn2 hb2
        by_cases h21 : N ≤ k + c1 + 1
        · have d2 : (N : Int) ≤ (k : Int) + c1 + 1 := by omega
          have d2n : decide (N ≤ k + c1 + 1) = true := by simpa using h21
          have d2z : decide ((N : Int) ≤ (k : Int) + c1 + 1) = true := by simpa using d2
          have E2 : Hid (restR (seeF N L) N mn sc k bad = (m1 * 60 * 1000000, k + c1 + 1, b2)) := Lib.hid (restR_end HN0.out S1.out HB2.out (Or.inl h21))
          clear h21
          go_wp2
          go_quiet (fail)
          go_wp2
          go_ret
          rw [E2.out]
          exact ⟨rfl, R2.out.drewN _⟩
        · have d2 : (k : Int) + c1 + 1 < N := by omega
          have d2n : decide (N ≤ k + c1 + 1) = false := by simp; omega
          have d2z : decide ((N : Int) ≤ (k : Int) + c1 + 1) = false := by simpa using d2
          by_cases h22 : 0 ≤ b2
          · have E2 : Hid (restR (seeF N L) N mn sc k bad = (m1 * 60 * 1000000, k + c1 + 1, b2)) := Lib.hid (restR_end HN0.out S1.out HB2.out (Or.inr h22))
            have d22 : decide (0 ≤ b2) = true := by simpa using h22
            clear h21
            go_wp2
            go_quiet (fail)
            go_wp2
            go_ret
            rw [E2.out]
            exact ⟨rfl, R2.out.drewN _⟩
          · have E2 : Hid (restR (seeF N L) N mn sc k bad = secR (seeF N L) N sc (m1 * 60 * 1000000) (k + c1 + 1) b2) := Lib.hid (restR_sec HN0.out S1.out HB2.out (fun h => h.elim h21 h22))
            have d22 : decide (0 ≤ b2) = false := by simpa using h22
            clear h21 h22
            go_wp2
            go_quiet (fail)
            go_wp2_with fail
            have P3 := numberR_any (cap := cap) HO.out 2 2 (k + c1 + 1) (by omega) (by omega) b2 _ (R2.out.drewN nq)
            have hcb3 := cnt_le (seeF N L) 2 (k + c1 + 1)
            have hvb3 := numV_bd (seeF N L) (k + c1 + 1) (cnt (seeF N L) 2 (k + c1 + 1)) (fun j hj => cnt_digit (seeF N L) 2 (k + c1 + 1) j hj)
            generalize hc3 : cnt (seeF N L) 2 (k + c1 + 1) = c3 at *
            generalize hm3 : numV (seeF N L) (k + c1 + 1) c3 = m3 at *
            generalize hb3 : nb 2 c3 b2 ((k + c1 + 1) + c3) = b3 at *
            have hp3 := pow10_le c3 (by omega)
            have hm30 : 0 ≤ m3 := hvb3.1
            have hm31 : m3 < 1000000 := by have := hvb3.2; omega
            have HC3 := Lib.hid hc3
            have HM3 := Lib.hid hm3
            have HB3 := Lib.hid hb3
            have HP3 := Lib.hid hvb3
            refine P3.mono ?_; rintro e w3 ⟨rfl, h3⟩
            have R3 := Lib.hid h3
            clear P3 h3 hc3 hm3 hb3 hvb3 hp3
            clear x1 x2 x3 d22 d2n d2z
            by_cases h359 : 59 < m3
            · have S6 := Lib.hid (sixtyR_hi HC3.out HM3.out HB3.out h359)
              go_wp2_with fail
              refine (wrongR_any _ _ ((k + c1 + 1 : Nat) : Int) _ R3.out).mono ?_; rintro e w4 ⟨rfl, h4⟩
              have R4 := Lib.hid h4
              clear h4
              generalize wrB b3 ((k + c1 + 1 : Nat) : Int) = b4 at *
              have hs := see_any (cap := cap) HO.out (k + c1 + 1 + c3) (by omega) b4 _ R4.out
              go_wp2_with fail
              refine hs.mono ?_; rintro e w6 ⟨rfl, h6⟩
              have R6 := Lib.hid h6
              obtain ⟨_, _, x1, _, x2, _⟩ := h6
              clear hs
              by_cases hd : seeF N L (k + c1 + 1 + c3) = 46
              · have d6 : (seeF N L (k + c1 + 1 + c3) == 46) = true := by simpa using hd
                have HDD := Lib.hid hd
                clear hd
                go_wp2_with fail
                have R7 := Lib.hid (R6.out.at (k + c1 + 1 + c3 + 1) (z := (k + c1 + 1 + c3 : Nat) + 1) (by omega))
                clear x1 x2 d6
                have P7 := numberR_any (cap := cap) HO.out 1 6 (k + c1 + 1 + c3 + 1) (by omega) (by omega) b4 _ (by simpa using R7.out)
                have hcb7 := cnt_le (seeF N L) 6 (k + c1 + 1 + c3 + 1)
                have hvb7 := numV_bd (seeF N L) (k + c1 + 1 + c3 + 1) (cnt (seeF N L) 6 (k + c1 + 1 + c3 + 1)) (fun j hj => cnt_digit (seeF N L) 6 (k + c1 + 1 + c3 + 1) j hj)
                generalize hc7 : cnt (seeF N L) 6 (k + c1 + 1 + c3 + 1) = c7 at *
                generalize hm7 : numV (seeF N L) (k + c1 + 1 + c3 + 1) c7 = m7 at *
                generalize hb7 : nb 1 c7 b4 ((k + c1 + 1 + c3 + 1) + c7) = b7 at *
                have hp7 := pow10_le c7 (by omega)
                have hm70 : 0 ≤ m7 := hvb7.1
                have hm71 : m7 < 1000000 := by have := hvb7.2; omega
                have HC7 := Lib.hid hc7
                have HM7 := Lib.hid hm7
                have HB7 := Lib.hid hb7
                have HP7 := Lib.hid hvb7
                refine P7.mono ?_; rintro e w7 ⟨rfl, h7⟩
                have R7 := Lib.hid h7
                clear P7 h7 hc7 hm7 hb7 hvb7 hp7
                have E7 : Hid (restR (seeF N L) N mn sc k bad = endR (seeF N L) N sc (m1 * 60 * 1000000 + m3 * 1000000 + m7 * 10 ^ (6 - c7)) (k + c1 + 1 + c3 + 1 + c7) b7) := Lib.hid (by rw [E2.out]; exact secR_dot S6.out HDD.out HC7.out HM7.out HB7.out)
                have HQ := Lib.hid (fun j h => pow_bd m7 c7 j HP7.out.1 HP7.out.2 h)
                go_wp2
                go_loop [11, 12] (fun part i => ∃ j : Nat, j + c7 ≤ 6 ∧ i = .int .i64 ((c7 : Int) + j) ∧ part = .int .i64 (m7 * 10 ^ j)) (fun _ i => 6 - (intOf i).toNat)
                case atStart => exact ⟨0, by omega, by simp, by simp⟩
                case round =>
                  obtain ⟨j, hj, rfl, rfl⟩ := hrel
                  have hpj := HQ.out j (by omega)
                  by_cases hjl : j + c7 < 6
                  · have hE : Hid (m7 * 10 ^ (j + 1) = m7 * 10 ^ j * 10) := Lib.hid (by rw [Int.pow_succ, Int.mul_assoc])
                    obtain ⟨hpj0, hpj1⟩ := hpj
                    generalize m7 * 10 ^ j = q at *
                    go_wp2
                    go_round
                    case rel => exact ⟨j + 1, by omega, by go_num, by rw [hE.out]⟩
                    case measure => simp [intOf]; omega
                  · obtain rfl : j = 6 - c7 := by omega
                    obtain ⟨hpj0, hpj1⟩ := hpj
                    generalize m7 * 10 ^ (6 - c7) = q at *
                    go_wp2_with fail
                    have hn9 := needR_any (cap := cap) HO.out (k + c1 + 1 + c3 + 1 + c7) (by omega) b7 sc _ R7.out
                    generalize hb9 : needB (seeF N L) sc (k + c1 + 1 + c3 + 1 + c7) b7 = b9 at *
                    have HB9 := Lib.hid hb9
                    refine hn9.mono ?_; rintro e w9 ⟨rfl, h9⟩
                    have R9 := Lib.hid h9
                    obtain ⟨_, x1, x2, _⟩ := h9
                    clear hn9 hb9
                    by_cases hl : k + c1 + 1 + c3 + 1 + c7 + 1 < N
                    · have E9 : Hid (restR (seeF N L) N mn sc k bad = (m1 * 60 * 1000000 + m3 * 1000000 + q, k + c1 + 1 + c3 + 1 + c7 + 1, wrB b9 (k + c1 + 1 + c3 + 1 + c7 + 1 : Nat))) := Lib.hid (by rw [E7.out]; exact endR_more HB9.out hl)
                      have d9 : (((k + c1 + 1 + c3 + 1 + c7 + 1 : Nat) : Int)) < N := by omega
                      clear hl
                      go_wp2
                      go_quiet (fail)
                      go_wp2_with fail
                      refine (wrongR_any _ _ _ _ (R9.out.drewN _)).mono ?_; rintro e w10 ⟨rfl, h10⟩
                      have R10 := Lib.hid h10
                      clear h10
                      go_wp2
                      go_ret
                      rw [E9.out]
                      exact ⟨rfl, R10.out⟩
                    · have E9 : Hid (restR (seeF N L) N mn sc k bad = (m1 * 60 * 1000000 + m3 * 1000000 + q, k + c1 + 1 + c3 + 1 + c7 + 1, b9)) := Lib.hid (by rw [E7.out]; exact endR_fine HB9.out hl)
                      have d9 : (N : Int) ≤ ((k + c1 + 1 + c3 + 1 + c7 + 1 : Nat) : Int) := by omega
                      clear hl
                      go_wp2
                      go_quiet (fail)
                      go_wp2
                      go_ret
                      rw [E9.out]
                      exact ⟨rfl, R9.out.drewN _⟩
              · have d6 : (seeF N L (k + c1 + 1 + c3) == 46) = false := by simpa using hd
                have E7 : Hid (restR (seeF N L) N mn sc k bad = endR (seeF N L) N sc (m1 * 60 * 1000000 + m3 * 1000000) (k + c1 + 1 + c3) b4) := Lib.hid (by rw [E2.out]; exact secR_no S6.out hd)
                clear hd x1 x2
                generalize seeF N L (k + c1 + 1 + c3) = xx at *
                go_wp2_with fail
                have hn9 := needR_any (cap := cap) HO.out (k + c1 + 1 + c3) (by omega) b4 sc _ R6.out
                generalize hb9 : needB (seeF N L) sc (k + c1 + 1 + c3) b4 = b9 at *
                have HB9 := Lib.hid hb9
                refine hn9.mono ?_; rintro e w9 ⟨rfl, h9⟩
                have R9 := Lib.hid h9
                obtain ⟨_, x1, x2, _⟩ := h9
                clear hn9 hb9
                by_cases hl : k + c1 + 1 + c3 + 1 < N
                · have E9 : Hid (restR (seeF N L) N mn sc k bad = (m1 * 60 * 1000000 + m3 * 1000000, k + c1 + 1 + c3 + 1, wrB b9 (k + c1 + 1 + c3 + 1 : Nat))) := Lib.hid (by rw [E7.out]; exact endR_more HB9.out hl)
                  have d9 : (((k + c1 + 1 + c3 + 1 : Nat) : Int)) < N := by omega
                  clear hl
                  go_wp2
                  go_quiet (fail)
                  go_wp2_with fail
                  refine (wrongR_any _ _ _ _ (R9.out.drewN _)).mono ?_; rintro e w10 ⟨rfl, h10⟩
                  have R10 := Lib.hid h10
                  clear h10
                  go_wp2
                  go_ret
                  rw [E9.out]
                  exact ⟨rfl, R10.out⟩
                · have E9 : Hid (restR (seeF N L) N mn sc k bad = (m1 * 60 * 1000000 + m3 * 1000000, k + c1 + 1 + c3 + 1, b9)) := Lib.hid (by rw [E7.out]; exact endR_fine HB9.out hl)
                  have d9 : (N : Int) ≤ ((k + c1 + 1 + c3 + 1 : Nat) : Int) := by omega
                  clear hl
                  go_wp2
                  go_quiet (fail)
                  go_wp2
                  go_ret
                  rw [E9.out]
                  exact ⟨rfl, R9.out.drewN _⟩
            · have S6 := Lib.hid (sixtyR_lo HC3.out HM3.out HB3.out h359)
              have hs := see_any (cap := cap) HO.out (k + c1 + 1 + c3) (by omega) b3 _ R3.out
              go_wp2_with fail
              refine hs.mono ?_; rintro e w6 ⟨rfl, h6⟩
              have R6 := Lib.hid h6
              obtain ⟨_, _, x1, _, x2, _⟩ := h6
              clear hs
              by_cases hd : seeF N L (k + c1 + 1 + c3) = 46
              · have d6 : (seeF N L (k + c1 + 1 + c3) == 46) = true := by simpa using hd
                have HDD := Lib.hid hd
                clear hd
                go_wp2_with fail
                have R7 := Lib.hid (R6.out.at (k + c1 + 1 + c3 + 1) (z := (k + c1 + 1 + c3 : Nat) + 1) (by omega))
                clear x1 x2 d6
                have P7 := numberR_any (cap := cap) HO.out 1 6 (k + c1 + 1 + c3 + 1) (by omega) (by omega) b3 _ (by simpa using R7.out)
                have hcb7 := cnt_le (seeF N L) 6 (k + c1 + 1 + c3 + 1)
                have hvb7 := numV_bd (seeF N L) (k + c1 + 1 + c3 + 1) (cnt (seeF N L) 6 (k + c1 + 1 + c3 + 1)) (fun j hj => cnt_digit (seeF N L) 6 (k + c1 + 1 + c3 + 1) j hj)
                generalize hc7 : cnt (seeF N L) 6 (k + c1 + 1 + c3 + 1) = c7 at *
                generalize hm7 : numV (seeF N L) (k + c1 + 1 + c3 + 1) c7 = m7 at *
                generalize hb7 : nb 1 c7 b3 ((k + c1 + 1 + c3 + 1) + c7) = b7 at *
                have hp7 := pow10_le c7 (by omega)
                have hm70 : 0 ≤ m7 := hvb7.1
                have hm71 : m7 < 1000000 := by have := hvb7.2; omega
                have HC7 := Lib.hid hc7
                have HM7 := Lib.hid hm7
                have HB7 := Lib.hid hb7
                have HP7 := Lib.hid hvb7
                refine P7.mono ?_; rintro e w7 ⟨rfl, h7⟩
                have R7 := Lib.hid h7
                clear P7 h7 hc7 hm7 hb7 hvb7 hp7
                have E7 : Hid (restR (seeF N L) N mn sc k bad = endR (seeF N L) N sc (m1 * 60 * 1000000 + m3 * 1000000 + m7 * 10 ^ (6 - c7)) (k + c1 + 1 + c3 + 1 + c7) b7) := Lib.hid (by rw [E2.out]; exact secR_dot S6.out HDD.out HC7.out HM7.out HB7.out)
                have HQ := Lib.hid (fun j h => pow_bd m7 c7 j HP7.out.1 HP7.out.2 h)
                go_wp2
                go_loop [11, 12] (fun part i => ∃ j : Nat, j + c7 ≤ 6 ∧ i = .int .i64 ((c7 : Int) + j) ∧ part = .int .i64 (m7 * 10 ^ j)) (fun _ i => 6 - (intOf i).toNat)
                case atStart => exact ⟨0, by omega, by simp, by simp⟩
                case round =>
                  obtain ⟨j, hj, rfl, rfl⟩ := hrel
                  have hpj := HQ.out j (by omega)
                  by_cases hjl : j + c7 < 6
                  · have hE : Hid (m7 * 10 ^ (j + 1) = m7 * 10 ^ j * 10) := Lib.hid (by rw [Int.pow_succ, Int.mul_assoc])
                    obtain ⟨hpj0, hpj1⟩ := hpj
                    generalize m7 * 10 ^ j = q at *
                    go_wp2
                    go_round
                    case rel => exact ⟨j + 1, by omega, by go_num, by rw [hE.out]⟩
                    case measure => simp [intOf]; omega
                  · obtain rfl : j = 6 - c7 := by omega
                    obtain ⟨hpj0, hpj1⟩ := hpj
                    generalize m7 * 10 ^ (6 - c7) = q at *
                    go_wp2_with fail
                    have hn9 := needR_any (cap := cap) HO.out (k + c1 + 1 + c3 + 1 + c7) (by omega) b7 sc _ R7.out
                    generalize hb9 : needB (seeF N L) sc (k + c1 + 1 + c3 + 1 + c7) b7 = b9 at *
                    have HB9 := Lib.hid hb9
                    refine hn9.mono ?_; rintro e w9 ⟨rfl, h9⟩
                    have R9 := Lib.hid h9
                    obtain ⟨_, x1, x2, _⟩ := h9
                    clear hn9 hb9
                    by_cases hl : k + c1 + 1 + c3 + 1 + c7 + 1 < N
                    · have E9 : Hid (restR (seeF N L) N mn sc k bad = (m1 * 60 * 1000000 + m3 * 1000000 + q, k + c1 + 1 + c3 + 1 + c7 + 1, wrB b9 (k + c1 + 1 + c3 + 1 + c7 + 1 : Nat))) := Lib.hid (by rw [E7.out]; exact endR_more HB9.out hl)
                      have d9 : (((k + c1 + 1 + c3 + 1 + c7 + 1 : Nat) : Int)) < N := by omega
                      clear hl
                      go_wp2
                      go_quiet (fail)
                      go_wp2_with fail
                      refine (wrongR_any _ _ _ _ (R9.out.drewN _)).mono ?_; rintro e w10 ⟨rfl, h10⟩
                      have R10 := Lib.hid h10
                      clear h10
                      go_wp2
                      go_ret
                      rw [E9.out]
                      exact ⟨rfl, R10.out⟩
                    · have E9 : Hid (restR (seeF N L) N mn sc k bad = (m1 * 60 * 1000000 + m3 * 1000000 + q, k + c1 + 1 + c3 + 1 + c7 + 1, b9)) := Lib.hid (by rw [E7.out]; exact endR_fine HB9.out hl)
                      have d9 : (N : Int) ≤ ((k + c1 + 1 + c3 + 1 + c7 + 1 : Nat) : Int) := by omega
                      clear hl
                      go_wp2
                      go_quiet (fail)
                      go_wp2
                      go_ret
                      rw [E9.out]
                      exact ⟨rfl, R9.out.drewN _⟩
              · have d6 : (seeF N L (k + c1 + 1 + c3) == 46) = false := by simpa using hd
                have E7 : Hid (restR (seeF N L) N mn sc k bad = endR (seeF N L) N sc (m1 * 60 * 1000000 + m3 * 1000000) (k + c1 + 1 + c3) b3) := Lib.hid (by rw [E2.out]; exact secR_no S6.out hd)
                clear hd x1 x2
                generalize seeF N L (k + c1 + 1 + c3) = xx at *
                go_wp2_with fail
                have hn9 := needR_any (cap := cap) HO.out (k + c1 + 1 + c3) (by omega) b3 sc _ R6.out
                generalize hb9 : needB (seeF N L) sc (k + c1 + 1 + c3) b3 = b9 at *
                have HB9 := Lib.hid hb9
                refine hn9.mono ?_; rintro e w9 ⟨rfl, h9⟩
                have R9 := Lib.hid h9
                obtain ⟨_, x1, x2, _⟩ := h9
                clear hn9 hb9
                by_cases hl : k + c1 + 1 + c3 + 1 < N
                · have E9 : Hid (restR (seeF N L) N mn sc k bad = (m1 * 60 * 1000000 + m3 * 1000000, k + c1 + 1 + c3 + 1, wrB b9 (k + c1 + 1 + c3 + 1 : Nat))) := Lib.hid (by rw [E7.out]; exact endR_more HB9.out hl)
                  have d9 : (((k + c1 + 1 + c3 + 1 : Nat) : Int)) < N := by omega
                  clear hl
                  go_wp2
                  go_quiet (fail)
                  go_wp2_with fail
                  refine (wrongR_any _ _ _ _ (R9.out.drewN _)).mono ?_; rintro e w10 ⟨rfl, h10⟩
                  have R10 := Lib.hid h10
                  clear h10
                  go_wp2
                  go_ret
                  rw [E9.out]
                  exact ⟨rfl, R10.out⟩
                · have E9 : Hid (restR (seeF N L) N mn sc k bad = (m1 * 60 * 1000000 + m3 * 1000000, k + c1 + 1 + c3 + 1, b9)) := Lib.hid (by rw [E7.out]; exact endR_fine HB9.out hl)
                  have d9 : (N : Int) ≤ ((k + c1 + 1 + c3 + 1 : Nat) : Int) := by omega
                  clear hl
                  go_wp2
                  go_quiet (fail)
                  go_wp2
                  go_ret
                  rw [E9.out]
                  exact ⟨rfl, R9.out.drewN _⟩
end
end Go.Proofs.YtpkifhmnibepiaaDoor
