/- The reference's rounded. -/
import Derived.Test.YtmkdcnemocdefaaGreatFmtExL
import Derived.Test.YtmkdcnemocdefaaGreatFmtRefP
import Derived.Test.YtmkdcnemocdefaaGreatFmtDbl0
namespace Go.Proofs.YtmkdcnemocdefaaGreatFmt
open Go.RowKit

theorem bit_neg (e : Nat) (w : World) :
    Calls Tryz.prog 42 #[.pointer (some ⟨e, 0, none⟩), .int .i64 (-1)] w fun en w' => en = .returned (.int .i64 0) ∧ w' = w := by
  go_enter Tryz.func42, Tryz.ntmps42
  go_wp2
  go_ret
  exact ⟨rfl, rfl⟩
theorem down_bit {S k : Nat} (h : S < 2 ^ (k + 1)) (hb : S / 2 ^ k % 2 = 0) : S < 2 ^ k := by
  have p := Nat.two_pow_pos k
  rw [Nat.pow_succ] at h
  have d : S / 2 ^ k < 2 := by
    rw [Nat.div_lt_iff_lt_mul p]; omega
  have z : S / 2 ^ k = 0 := by
    generalize S / 2 ^ k = q at *
    omega
  rcases Nat.lt_or_ge S (2 ^ k) with g | g
  · exact g
  · have := Nat.div_pos g p
    omega
theorem up_bit {S k : Nat} (hb : S / 2 ^ k % 2 = 1) : 2 ^ k ≤ S := by
  have p := Nat.two_pow_pos k
  rcases Nat.lt_or_ge S (2 ^ k) with g | g
  · rw [Nat.div_eq_of_lt g] at hb; omega
  · exact g
theorem i64_or01 (a b : Nat) (ha : a ≤ 1) (hb : b ≤ 1) : bits .or .i64 (a : Int) (b : Int) = ((if a = 1 ∨ b = 1 then 1 else 0 : Nat) : Int) := by
  have ha' : a = 0 ∨ a = 1 := by omega
  have hb' : b = 0 ∨ b = 1 := by omega
  rcases ha' with rfl | rfl <;> rcases hb' with rfl | rfl <;> decide +kernel

set_option maxRecDepth 20000 in
set_option maxHeartbeats 4000000 in
theorem rounded_any (e h S : Nat) (w : World) (H : Lev w e h S) :
    Calls Tryz.prog 21 #[.pointer (some ⟨e, 0, none⟩)] w fun en w' => en = .returned (.float .f64 (rndW S)) ∧ w' = w := by
  obtain ⟨g, hE, hg, hS⟩ := H
  have hlt := numd_lt (f := g) (n := 72) hg
  rw [hS] at hlt
  have HBit : Hid (∀ k : Nat, k < 2304 → Calls Tryz.prog 42 #[.pointer (some ⟨e, 0, none⟩), .int .i64 (k : Int)] w fun en w' => en = .returned (.int .i64 ((S / 2 ^ k % 2 : Nat) : Int)) ∧ w' = w) := Lib.hid (fun k hk => by
    have r := bit_ref e h g k w hE hk hg
    rw [hS] at r
    exact r)
  have HBn := Lib.hid (bit_neg e w)
  have HIn := Lib.hid (inf_pos w)
  obtain ⟨T, hT⟩ : ∃ T, T = 32 * 72 := ⟨_, rfl⟩
  rw [← hT] at hlt
  have hT2 : T = 2304 := by omega
  have HT := Lib.hid hlt
  have hTi : (T : Int) - 1 = 2303 := by omega
  obtain ⟨R, hR⟩ : ∃ R, R = rndW S := ⟨_, rfl⟩
  rw [← hR]
  have HR := Lib.hid hR
  clear hR hE hg hS hlt hT
  have h9 := @run_callFunc_extern Tryz.prog 22 _ Extern.MathFloatBits.float64frombits Tryz.func22 (by kernel_rfl) (by kernel_rfl) (by kernel_rfl) (by kernel_rfl)
  go_enter Tryz.func21, Tryz.ntmps21
  go_wp2_with fail
  go_loopw [3] (fun t wr => ∃ k : Nat, k ≤ T ∧ t = .int .i64 ((k : Int) - 1) ∧ Hid (S < 2 ^ k) ∧ wr = w) (fun t _ => (intOf t + 1).toNat)
  case atStart => exact ⟨T, Nat.le_refl _, by rw [hTi], HT, rfl⟩
  case round =>
    obtain ⟨k, hk, rfl, HS, rfl⟩ := hrel
    rcases Nat.eq_zero_or_pos k with rfl | hk0
    · have HR0 : Hid (R = 0) := Lib.hid (by
        have s := HS.out
        have : S = 0 := by rw [Nat.pow_zero] at s; omega
        rw [HR.out, this]; exact rndW_zero)
      go_wp2
      go_ret
      rw [HR0.out]
      exact ⟨rfl, rfl⟩
    · obtain ⟨top, rfl⟩ : ∃ top, k = top + 1 := ⟨k - 1, by omega⟩
      have HB := Lib.hid (HBit.out top (by omega))
      have et : ((top + 1 : Nat) : Int) - 1 = (top : Int) := by omega
      rw [et]
      obtain ⟨bt, hbt⟩ : ∃ bt, S / 2 ^ top % 2 = bt := ⟨_, rfl⟩
      rw [hbt] at HB
      have hb2 : bt = 0 ∨ bt = 1 := by omega
      have HBt := Lib.hid hbt
      clear hbt et
      rcases hb2 with rfl | rfl
      · go_wp2_with fail
        refine HB.out.mono ?_; rintro e1 w1 ⟨rfl, rfl⟩
        go_wp2_with fail
        exact ⟨⟨top, by omega, rfl, Lib.hid (down_bit HS.out HBt.out), trivial⟩, by simp [intOf]⟩
      · have HTop := Lib.hid (up_bit HBt.out)
        go_wp2_with fail
        refine HB.out.mono ?_; rintro e1 w1 ⟨rfl, rfl⟩
        rcases Nat.lt_or_ge top 52 with hlo | hlo
        · have HLw := Lib.hid (show 0 = top - 52 by omega)
          have hb52 : decide ((top : Int) - 52 < 0) = true := decide_eq_true (by omega)
          have hb53 : decide ((top : Int) < 52) = true := decide_eq_true (by omega)
          go_wp2_with fail
          go_loopw [5, 6] (fun m i wz => ∃ j : Nat, 0 ≤ j ∧ j ≤ top + 1 ∧ i = .int .i64 ((j : Int) - 1) ∧ m = .int .u64 ((S / 2 ^ j : Nat) : Int) ∧ wz = w1) (fun _ i _ => (intOf i + 1).toNat)
          case atStart => exact ⟨top + 1, by omega, by omega, by simp, by rw [Nat.div_eq_of_lt HS.out]; rfl, rfl⟩
          case round =>
            obtain ⟨j, hj1, hj2, rfl, rfl, rfl⟩ := hrel
            rcases Nat.eq_or_lt_of_le hj1 with hj | hj
            · subst hj
              obtain ⟨M, hM⟩ : ∃ M, S / 2 ^ 0 = M := ⟨_, rfl⟩
              have hfitM : M < 9007199254740992 := by rw [← hM]; exact ref_fits S top 0 HS.out HLw.out
              rw [hM]
              have HM := Lib.hid hM
              clear hM
              go_wp2_with fail
              go_loopw [7, 8] (fun r i wz => ∃ k : Nat, (k = 0 ∨ k + 1 ≤ 0) ∧ i = .int .i64 k ∧ r = .int .i64 ((restN S k : Nat) : Int) ∧ wz = wr) (fun _ i _ => (0 - (intOf i).toNat))
              case atStart => exact ⟨0, Or.inl rfl, rfl, by rw [restN_zero]; rfl, (by first | rfl | trivial)⟩
              case round =>
                obtain ⟨k, hk3, rfl, rfl, rfl⟩ := hrel
                rcases Nat.lt_or_ge (k + 1) 0 with hk4 | hk4
                · omega
                · have hk0' : k = 0 := by omega
                  subst hk0'
                  have HHf : Hid (Calls Tryz.prog 42 #[.pointer (some ⟨e, 0, none⟩), .int .i64 (-1)] wr fun en w' => en = .returned (.int .i64 ((0 : Nat) : Int)) ∧ w' = wr) := HBn
                  have hval : refMant S 0 = M := by
                    have q := HM.out
                    rw [Nat.pow_zero, Nat.div_one] at q
                    unfold refMant
                    rw [if_pos rfl]; exact q
                  have HVal := Lib.hid hval
                  clear hval
                  rw [restN_zero]
                  have HRW : Hid (R = M) := Lib.hid (by
                    rw [HR.out, ref_word S top 0 HTop.out HS.out HLw.out, HVal.out, if_neg (by omega)]; omega)
                  have hM1 : ¬ (9218868437227405312 ≤ (M : Int)) := by omega
                  have hM2 : decide (9218868437227405312 ≤ (M : Int)) = false := decide_eq_false hM1
                  go_wp2_with fail
                  refine HHf.out.mono ?_; rintro e3 w3 ⟨rfl, rfl⟩
                  go_wp2
                  go_ret
                  rw [HRW.out]
                  exact ⟨rfl, rfl⟩
            · obtain ⟨i, rfl⟩ : ∃ i, j = i + 1 := ⟨j - 1, by omega⟩
              have HB2 := Lib.hid (HBit.out i (by omega))
              have ei : ((i + 1 : Nat) : Int) - 1 = (i : Int) := by omega
              rw [ei]
              have hst := bit_step S i
              have hfit : S / 2 ^ i < 9007199254740992 := by
                refine Nat.lt_of_le_of_lt ?_ (ref_fits S top 0 HS.out HLw.out)
                exact Nat.div_le_div_left (Nat.pow_le_pow_right (by decide) (by omega)) (Nat.two_pow_pos _)
              obtain ⟨q, hq⟩ : ∃ q, S / 2 ^ (i + 1) = q := ⟨_, rfl⟩
              obtain ⟨bb, hbb⟩ : ∃ bb, S / 2 ^ i % 2 = bb := ⟨_, rfl⟩
              obtain ⟨q2, hq2⟩ : ∃ q2, S / 2 ^ i = q2 := ⟨_, rfl⟩
              have hb1 : bb ≤ 1 := by omega
              rw [hq, hbb, hq2] at hst
              rw [hq2] at hfit
              rw [hq]
              rw [hbb] at HB2
              have HQ := Lib.hid hq2
              have em : (q : Int) * 2 + (bb : Int) = (q2 : Int) := by omega
              clear hq hbb hq2 ei hst
              go_wp2_with fail
              refine HB2.out.mono ?_; rintro e2 w2 ⟨rfl, rfl⟩
              go_wp2_with fail
              exact ⟨⟨i, by omega, by omega, rfl, by rw [HQ.out], (by first | rfl | trivial)⟩, by simp [intOf]; try omega⟩
        · obtain ⟨low, hlow⟩ : ∃ low, low = top - 52 := ⟨_, rfl⟩
          have el : (top : Int) - 52 = (low : Int) := by omega
          have hl2 : low + 52 = top := by omega
          have HLw := Lib.hid hlow
          clear hlow
          go_wp2_with fail
          go_loopw [5, 6] (fun m i wz => ∃ j : Nat, low ≤ j ∧ j ≤ top + 1 ∧ i = .int .i64 ((j : Int) - 1) ∧ m = .int .u64 ((S / 2 ^ j : Nat) : Int) ∧ wz = w1) (fun _ i _ => (intOf i + 1).toNat)
          case atStart => exact ⟨top + 1, by omega, by omega, by simp, by rw [Nat.div_eq_of_lt HS.out]; rfl, rfl⟩
          case round =>
            obtain ⟨j, hj1, hj2, rfl, rfl, rfl⟩ := hrel
            rcases Nat.eq_or_lt_of_le hj1 with hj | hj
            · subst hj
              obtain ⟨M, hM⟩ : ∃ M, S / 2 ^ low = M := ⟨_, rfl⟩
              have hfitM : M < 9007199254740992 := by rw [← hM]; exact ref_fits S top low HS.out HLw.out
              rw [hM]
              have HM := Lib.hid hM
              clear hM
              go_wp2_with fail
              go_loopw [7, 8] (fun r i wz => ∃ k : Nat, (k = 0 ∨ k + 1 ≤ low) ∧ i = .int .i64 k ∧ r = .int .i64 ((restN S k : Nat) : Int) ∧ wz = wr) (fun _ i _ => (low - (intOf i).toNat))
              case atStart => exact ⟨0, Or.inl rfl, rfl, by rw [restN_zero]; rfl, (by first | rfl | trivial)⟩
              case round =>
                obtain ⟨k, hk3, rfl, rfl, rfl⟩ := hrel
                rcases Nat.lt_or_ge (k + 1) low with hk4 | hk4
                · have HB3 := Lib.hid (HBit.out k (by omega))
                  have hor := i64_or01 (restN S k) (S / 2 ^ k % 2) (restN_le S k) (by omega)
                  rw [← restN_step S k] at hor
                  obtain ⟨r1, hr1⟩ : ∃ r1, restN S k = r1 := ⟨_, rfl⟩
                  obtain ⟨r2, hr2⟩ : ∃ r2, S / 2 ^ k % 2 = r2 := ⟨_, rfl⟩
                  obtain ⟨r3, hr3⟩ : ∃ r3, restN S (k + 1) = r3 := ⟨_, rfl⟩
                  rw [hr1, hr2, hr3] at hor
                  rw [hr2] at HB3
                  rw [hr1]
                  have HR3 := Lib.hid hr3
                  clear hr1 hr2 hr3
                  go_wp2_with fail
                  refine HB3.out.mono ?_; rintro e3 w3 ⟨rfl, rfl⟩
                  go_wp2_with fail
                  exact ⟨⟨k + 1, Or.inr (by omega), rfl, by rw [HR3.out], (by first | rfl | trivial)⟩, by simp [intOf]; try omega⟩
                · rcases Nat.eq_zero_or_pos low with hz | hz
                  · subst hz
                    have hk0' : k = 0 := by omega
                    subst hk0'
                    have HHf : Hid (Calls Tryz.prog 42 #[.pointer (some ⟨e, 0, none⟩), .int .i64 (-1)] wr fun en w' => en = .returned (.int .i64 ((0 : Nat) : Int)) ∧ w' = wr) := HBn
                    have hval : refMant S 0 = M := by
                      have q := HM.out
                      rw [Nat.pow_zero, Nat.div_one] at q
                      unfold refMant
                      rw [if_pos rfl]; exact q
                    have HVal := Lib.hid hval
                    clear hval
                    rw [restN_zero]
                    have HRW : Hid (R = M) := Lib.hid (by
                      rw [HR.out, ref_word S top 0 HTop.out HS.out HLw.out, HVal.out, if_neg (by omega)]; omega)
                    have hM1 : ¬ (9218868437227405312 ≤ (M : Int)) := by omega
                    have hM2 : decide (9218868437227405312 ≤ (M : Int)) = false := decide_eq_false hM1
                    go_wp2_with fail
                    refine HHf.out.mono ?_; rintro e3 w3 ⟨rfl, rfl⟩
                    go_wp2
                    go_ret
                    rw [HRW.out]
                    exact ⟨rfl, rfl⟩
                  · have hkl : k + 1 = low := by omega
                    have HH0 := HBit.out k (by omega)
                    have el1 : (low : Int) - 1 = (k : Int) := by omega
                    have hkk : low ≤ 2252 := by omega
                    have HKL := Lib.hid hkl
                    clear el hl2 hlo hj1 hj2 hk hk0 hT2 hTi hk3 hk4 hkl
                    obtain ⟨hf, hhf⟩ : ∃ hf, S / 2 ^ k % 2 = hf := ⟨_, rfl⟩
                    obtain ⟨r1, hr1⟩ : ∃ r1, restN S k = r1 := ⟨_, rfl⟩
                    rw [hhf] at HH0
                    have hf2 : hf = 0 ∨ hf = 1 := by omega
                    have hr2 : r1 = 0 ∨ r1 = 1 := by have := restN_le S k; omega
                    have HVal : Hid (refMant S low = if hf = 1 ∧ (r1 = 1 ∨ M % 2 = 1) then M + 1 else M) := Lib.hid (by
                      unfold refMant
                      rw [if_neg (by omega), show low - 1 = k by have := HKL.out; omega, hhf, hr1, HM.out])
                    rw [hr1]
                    have HHf := Lib.hid HH0
                    clear hhf hr1 HH0
                    rcases hf2 with rfl | rfl
                    · have hval : refMant S low = M := by rw [HVal.out]; exact if_neg (by omega)
                      obtain ⟨N, hN⟩ : ∃ N, M + low * 4503599627370496 = N := ⟨_, rfl⟩
                      have eN : (M : Int) + (low : Int) * 4503599627370496 = (N : Int) := by omega
                      have HRW : Hid (R = if 9218868437227405312 ≤ N then 9218868437227405312 else N) := Lib.hid (by
                        rw [HR.out, ref_word S top low HTop.out HS.out HLw.out, hval, hN])
                      have hN2 : N < 18446744073709551616 := by omega
                      clear hN hval
                      rcases Nat.lt_or_ge N 9218868437227405312 with hi | hi
                      · have hi1 : ¬ (9218868437227405312 ≤ (N : Int)) := by omega
                        have hi2 : decide (9218868437227405312 ≤ (N : Int)) = false := decide_eq_false hi1
                        have HI := Lib.hid hi
                        clear hi hN2
                        go_wp2_with fail
                        refine HHf.out.mono ?_; rintro e3 w3 ⟨rfl, rfl⟩
                        go_wp2
                        go_ret
                        rw [HRW.out, if_neg (by have := HI.out; omega)]
                        exact ⟨rfl, rfl⟩
                      · have hi1 : (9218868437227405312 : Int) ≤ (N : Int) := by omega
                        have hi2 : decide ((9218868437227405312 : Int) ≤ (N : Int)) = true := decide_eq_true hi1
                        have HI := Lib.hid hi
                        clear hi hN2
                        go_wp2_with fail
                        refine HHf.out.mono ?_; rintro e3 w3 ⟨rfl, rfl⟩
                        go_wp2_with fail
                        refine HIn.out.mono ?_; rintro e3 w3 ⟨rfl, rfl⟩
                        go_wp2
                        go_ret
                        rw [HRW.out, if_pos HI.out]
                        exact ⟨rfl, rfl⟩
                    · rcases hr2 with rfl | rfl
                      · rcases Nat.mod_two_eq_zero_or_one M with hm | hm
                        · have em2 : (M : Int) % 2 = 0 := by omega
                          have hval : refMant S low = M := by rw [HVal.out]; exact if_neg (by omega)
                          obtain ⟨N, hN⟩ : ∃ N, M + low * 4503599627370496 = N := ⟨_, rfl⟩
                          have eN : (M : Int) + (low : Int) * 4503599627370496 = (N : Int) := by omega
                          have HRW : Hid (R = if 9218868437227405312 ≤ N then 9218868437227405312 else N) := Lib.hid (by
                            rw [HR.out, ref_word S top low HTop.out HS.out HLw.out, hval, hN])
                          have hN2 : N < 18446744073709551616 := by omega
                          clear hN hval
                          rcases Nat.lt_or_ge N 9218868437227405312 with hi | hi
                          · have hi1 : ¬ (9218868437227405312 ≤ (N : Int)) := by omega
                            have hi2 : decide (9218868437227405312 ≤ (N : Int)) = false := decide_eq_false hi1
                            have HI := Lib.hid hi
                            clear hi hN2
                            go_wp2_with fail
                            refine HHf.out.mono ?_; rintro e3 w3 ⟨rfl, rfl⟩
                            go_wp2
                            go_ret
                            rw [HRW.out, if_neg (by have := HI.out; omega)]
                            exact ⟨rfl, rfl⟩
                          · have hi1 : (9218868437227405312 : Int) ≤ (N : Int) := by omega
                            have hi2 : decide ((9218868437227405312 : Int) ≤ (N : Int)) = true := decide_eq_true hi1
                            have HI := Lib.hid hi
                            clear hi hN2
                            go_wp2_with fail
                            refine HHf.out.mono ?_; rintro e3 w3 ⟨rfl, rfl⟩
                            go_wp2_with fail
                            refine HIn.out.mono ?_; rintro e3 w3 ⟨rfl, rfl⟩
                            go_wp2
                            go_ret
                            rw [HRW.out, if_pos HI.out]
                            exact ⟨rfl, rfl⟩
                        · have em2 : (M : Int) % 2 = 1 := by omega
                          have hval : refMant S low = M + 1 := by rw [HVal.out]; exact if_pos ⟨rfl, Or.inr hm⟩
                          obtain ⟨N, hN⟩ : ∃ N, (M + 1) + low * 4503599627370496 = N := ⟨_, rfl⟩
                          have eN : ((M : Int) + 1) + (low : Int) * 4503599627370496 = (N : Int) := by omega
                          have HRW : Hid (R = if 9218868437227405312 ≤ N then 9218868437227405312 else N) := Lib.hid (by
                            rw [HR.out, ref_word S top low HTop.out HS.out HLw.out, hval, hN])
                          have hN2 : N < 18446744073709551616 := by omega
                          clear hN hval
                          rcases Nat.lt_or_ge N 9218868437227405312 with hi | hi
                          · have hi1 : ¬ (9218868437227405312 ≤ (N : Int)) := by omega
                            have hi2 : decide (9218868437227405312 ≤ (N : Int)) = false := decide_eq_false hi1
                            have HI := Lib.hid hi
                            clear hi hN2
                            go_wp2_with fail
                            refine HHf.out.mono ?_; rintro e3 w3 ⟨rfl, rfl⟩
                            go_wp2
                            go_ret
                            rw [HRW.out, if_neg (by have := HI.out; omega)]
                            exact ⟨rfl, rfl⟩
                          · have hi1 : (9218868437227405312 : Int) ≤ (N : Int) := by omega
                            have hi2 : decide ((9218868437227405312 : Int) ≤ (N : Int)) = true := decide_eq_true hi1
                            have HI := Lib.hid hi
                            clear hi hN2
                            go_wp2_with fail
                            refine HHf.out.mono ?_; rintro e3 w3 ⟨rfl, rfl⟩
                            go_wp2_with fail
                            refine HIn.out.mono ?_; rintro e3 w3 ⟨rfl, rfl⟩
                            go_wp2
                            go_ret
                            rw [HRW.out, if_pos HI.out]
                            exact ⟨rfl, rfl⟩
                      · have hval : refMant S low = M + 1 := by rw [HVal.out]; exact if_pos ⟨rfl, Or.inl rfl⟩
                        obtain ⟨N, hN⟩ : ∃ N, (M + 1) + low * 4503599627370496 = N := ⟨_, rfl⟩
                        have eN : ((M : Int) + 1) + (low : Int) * 4503599627370496 = (N : Int) := by omega
                        have HRW : Hid (R = if 9218868437227405312 ≤ N then 9218868437227405312 else N) := Lib.hid (by
                          rw [HR.out, ref_word S top low HTop.out HS.out HLw.out, hval, hN])
                        have hN2 : N < 18446744073709551616 := by omega
                        clear hN hval
                        rcases Nat.lt_or_ge N 9218868437227405312 with hi | hi
                        · have hi1 : ¬ (9218868437227405312 ≤ (N : Int)) := by omega
                          have hi2 : decide (9218868437227405312 ≤ (N : Int)) = false := decide_eq_false hi1
                          have HI := Lib.hid hi
                          clear hi hN2
                          go_wp2_with fail
                          refine HHf.out.mono ?_; rintro e3 w3 ⟨rfl, rfl⟩
                          go_wp2
                          go_ret
                          rw [HRW.out, if_neg (by have := HI.out; omega)]
                          exact ⟨rfl, rfl⟩
                        · have hi1 : (9218868437227405312 : Int) ≤ (N : Int) := by omega
                          have hi2 : decide ((9218868437227405312 : Int) ≤ (N : Int)) = true := decide_eq_true hi1
                          have HI := Lib.hid hi
                          clear hi hN2
                          go_wp2_with fail
                          refine HHf.out.mono ?_; rintro e3 w3 ⟨rfl, rfl⟩
                          go_wp2_with fail
                          refine HIn.out.mono ?_; rintro e3 w3 ⟨rfl, rfl⟩
                          go_wp2
                          go_ret
                          rw [HRW.out, if_pos HI.out]
                          exact ⟨rfl, rfl⟩
            · obtain ⟨i, rfl⟩ : ∃ i, j = i + 1 := ⟨j - 1, by omega⟩
              have HB2 := Lib.hid (HBit.out i (by omega))
              have ei : ((i + 1 : Nat) : Int) - 1 = (i : Int) := by omega
              rw [ei]
              have hst := bit_step S i
              have hfit : S / 2 ^ i < 9007199254740992 := by
                refine Nat.lt_of_le_of_lt ?_ (ref_fits S top low HS.out HLw.out)
                exact Nat.div_le_div_left (Nat.pow_le_pow_right (by decide) (by omega)) (Nat.two_pow_pos _)
              obtain ⟨q, hq⟩ : ∃ q, S / 2 ^ (i + 1) = q := ⟨_, rfl⟩
              obtain ⟨bb, hbb⟩ : ∃ bb, S / 2 ^ i % 2 = bb := ⟨_, rfl⟩
              obtain ⟨q2, hq2⟩ : ∃ q2, S / 2 ^ i = q2 := ⟨_, rfl⟩
              have hb1 : bb ≤ 1 := by omega
              rw [hq, hbb, hq2] at hst
              rw [hq2] at hfit
              rw [hq]
              rw [hbb] at HB2
              have HQ := Lib.hid hq2
              have em : (q : Int) * 2 + (bb : Int) = (q2 : Int) := by omega
              clear hq hbb hq2 ei hst
              go_wp2_with fail
              refine HB2.out.mono ?_; rintro e2 w2 ⟨rfl, rfl⟩
              go_wp2_with fail
              exact ⟨⟨i, by omega, by omega, rfl, by rw [HQ.out], (by first | rfl | trivial)⟩, by simp [intOf]; try omega⟩
end Go.Proofs.YtmkdcnemocdefaaGreatFmt
