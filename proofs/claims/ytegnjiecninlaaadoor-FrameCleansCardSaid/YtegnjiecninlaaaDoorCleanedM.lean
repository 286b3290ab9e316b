/- Cleaned pictures: what the reference's Cleaned computes where all pictures are right. -/
import Derived.Test.YtegnjiecninlaaaDoorCleaned
namespace Go.Proofs.YtegnjiecninlaaaDoor
open Go.RowKit

theorem light_bd2 {x m f : Int} (h1 : 0 < x) (h2 : x ≤ 65535) (h3 : 0 ≤ m) (h4 : m ≤ 65535) (h5 : 0 < f) : (0 ≤ x * m ∧ x * m ≤ 4294836225) ∧ 0 ≤ x * m / f ∧ 0 ≤ x * m / f * f ∧ x * m / f * f ≤ x * m ∧ x * m / f ≤ x * m := by
  have a1 : 0 ≤ x * m := Int.mul_nonneg (by omega) h3
  have a2 : x * m ≤ 65535 * 65535 := Int.mul_le_mul h2 h4 h3 (by omega)
  have a3 : 0 ≤ x * m / f := Int.ediv_nonneg a1 (by omega)
  exact ⟨⟨a1, by omega⟩, a3, Int.mul_nonneg a3 (by omega), Int.ediv_mul_le _ (by omega), Int.ediv_le_self _ a1⟩
theorem vF_half {k d f m : Int} (h1 : 0 < f) (h2 : 0 < k - d) : vF k d f m = (if (if f ≤ 2 * ((k - d) * m - (k - d) * m / f * f) then (k - d) * m / f + 1 else (k - d) * m / f) ≤ 65535 then (if f ≤ 2 * ((k - d) * m - (k - d) * m / f * f) then (k - d) * m / f + 1 else (k - d) * m / f) else 65535) := by
  have e : 2 * (k - d) * m = 2 * ((k - d) * m) := Int.mul_assoc ..
  unfold vF
  rw [if_pos ⟨h1, h2⟩, e, half_up h1]

set_option maxRecDepth 20000 in
set_option maxHeartbeats 16000000 in
theorem cleaned_main (b0 o0 b1 o1 b2 o2 : Nat) (W0 H0 W1 H1 W2 H2 : Int) (full : Int) (f0 f1 f2 : Nat → Int) (a0 a1 a2 : Option Addr) (n0 n1 n2 c0 c1 c2 : Nat) (w : World) (h : Pics w b0 o0 b1 o1 b2 o2 W0 H0 W1 H1 W2 H2 a0 a1 a2 n0 n1 n2 c0 c1 c2 f0 f1 f2) (g0 : picG W0 H0 n0 f0) (g1 : picG W1 H1 n1 f1) (g2 : picG W2 H2 n2 f2) :
    Calls Tryd.prog 28 #[.pointer (some ⟨b0, o0, none⟩), .pointer (some ⟨b1, o1, none⟩), .pointer (some ⟨b2, o2, none⟩), .int .i64 full] w fun e w' => (fits W0 H0 W1 H1 W2 H2 full (cntP f2 n2) ∧ ∃ a b ca cb, e = .returned (.tuple #[.slice a n0 ca, .slice b (FL f0 full n0).length cb, .int .i64 0]) ∧ IRow w' a n0 (fun j => (VL f0 f1 f2 (sumP f2 n2 / (cntP f2 n2 : Int)) n0).getD j 0) ∧ IRow w' b (FL f0 full n0).length (fun j => (FL f0 full n0).getD j 0) ∧ Below w.heap.size w w') ∨
      (¬ fits W0 H0 W1 H1 W2 H2 full (cntP f2 n2) ∧ e = .returned (.tuple #[.slice none 0 0, .slice none 0 0, .int .i64 5]) ∧ Below w.heap.size w w') := by
  have HE0 := Lib.hid (picE_ok b0 o0 W0 H0 f0 a0 n0 c0 w h.1 g0)
  have HE1 := Lib.hid (fun W (h : PicAt W b1 o1 W1 H1 a1 n1 c1 f1) => picE_ok b1 o1 W1 H1 f1 a1 n1 c1 W h g1)
  have HE2 := Lib.hid (fun W (h : PicAt W b2 o2 W2 H2 a2 n2 c2 f2) => picE_ok b2 o2 W2 H2 f2 a2 n2 c2 W h g2)
  have HP := Lib.hid h
  have G0 := Lib.hid g0
  have G1 := Lib.hid g1
  have G2 := Lib.hid g2
  have HG2 := Lib.hid g2.2.2.2.2.2
  have HSB := Lib.hid (sumP_bd g2.2.2.2.2.2)
  have hn2 : n2 ≤ 65536 := by
    obtain ⟨x1, x2, y1, y2, hw, _⟩ := g2
    have := Int.mul_le_mul x2 y2 (by omega) (by decide)
    omega
  clear h g0 g1 g2
  go_enter Tryd.func28, Tryd.ntmps28
  go_wp2_with fail
  refine HE0.out.mono ?_; rintro e w1 ⟨rfl, hb1⟩
  have HB1 := Lib.hid hb1
  clear hb1
  go_wp2_with fail
  refine (HE1.out _ (HP.out.below HB1.out).2.1).mono ?_; rintro e w2 ⟨rfl, hb2⟩
  have HB2 := Lib.hid (below_step HB1.out hb2)
  clear hb2
  go_wp2_with fail
  refine (HE2.out _ (HP.out.below HB2.out).2.2).mono ?_; rintro e w3 ⟨rfl, hb3⟩
  have HB3 := Lib.hid (below_step HB2.out hb3)
  clear hb3 HE0 HE1 HE2
  obtain ⟨⟨u0, u1, u2, _⟩, ⟨v0, v1, v2, _⟩, ⟨t0, t1, t2, _⟩⟩ := HP.out.below HB3.out
  by_cases Q0 : W0 = W1
  · have B0 : (W0 == W1) = true := by simpa using Q0
    have HQ0 := Lib.hid Q0
    clear Q0
    by_cases Q1 : H0 = H1
    · have B1 : (H0 == H1) = true := by simpa using Q1
      have HQ1 := Lib.hid Q1
      clear Q1
      by_cases Q2 : W0 = W2
      · have B2 : (W0 == W2) = true := by simpa using Q2
        have HQ2 := Lib.hid Q2
        clear Q2
        by_cases Q3 : H0 = H2
        · have B3 : (H0 == H2) = true := by simpa using Q3
          have HQ3 := Lib.hid Q3
          clear Q3
          have HQ := Lib.hid (show W0 = W1 ∧ H0 = H1 ∧ W0 = W2 ∧ H0 = H2 from ⟨HQ0.out, HQ1.out, HQ2.out, HQ3.out⟩)
          go_wp2
          go_quiet (fail)
          go_wp2
          clear u0 u1 u2 v0 v1 v2 t0 t1 t2
          have HB4 : Hid (Below w.heap.size w (w3.drewN nq)) := Lib.hid (below_drewN HB3.out _)
          go_loopw [13, 14, 15] (fun s c i wr => ∃ k : Nat, k ≤ n2 ∧ i = .int .i64 k ∧ s = .int .i64 (sumP f2 k) ∧ c = .int .i64 (cntP f2 k : Nat) ∧ Hid (Below w.heap.size w wr)) (fun _ _ i _ => n2 - (intOf i).toNat)
          case atStart => exact ⟨0, Nat.zero_le _, rfl, rfl, rfl, HB4⟩
          case round =>
            clear HB4
            obtain ⟨k, hk, rfl, rfl, rfl, hB⟩ := hrel
            have hsb := HSB.out k hk
            obtain ⟨_, _, _, _, t2, hR2⟩ := HP.out.below hB.out
            by_cases hkn : k < n2
            · obtain ⟨b, o, rfl, _, c1⟩ := hR2.at hkn
              have hx := HG2.out k hkn
              clear hR2
              by_cases hp : 0 < f2 k
              · have E1 := Lib.hid (show sumP f2 (k + 1) = sumP f2 k + f2 k from if_pos hp)
                have E2 := Lib.hid (show cntP f2 (k + 1) = cntP f2 k + 1 from if_pos hp)
                have bn : (f2 k != 0) = true := by rw [bne_iff_ne]; omega
                go_wp2
                go_roundw
                case rel => exact ⟨k + 1, by omega, by go_num, by rw [E1.out], by rw [E2.out]; go_num, hB⟩
                case measure => simp [intOf]; omega
              · have E1 := Lib.hid (show sumP f2 (k + 1) = sumP f2 k from if_neg hp)
                have E2 := Lib.hid (show cntP f2 (k + 1) = cntP f2 k from if_neg hp)
                have hz : f2 k = 0 := by omega
                rw [hz] at c1
                clear hz hp hx
                go_wp2
                go_roundw
                case rel => exact ⟨k + 1, by omega, by go_num, by rw [E1.out], by rw [E2.out], hB⟩
                case measure => simp [intOf]; omega
            · obtain rfl : n2 = k := by omega
              clear hR2
              by_cases A3 : full < 1
              · have HNO : Hid (¬ fits W0 H0 W1 H1 W2 H2 full (cntP f2 n2)) := Lib.hid (fun h => by have := h.2.2.2.2.1; omega)
                go_wp2
                go_ret3
                exact Or.inr ⟨HNO.out, rfl, hB.out⟩
              by_cases A4 : 65535 < full
              · have HNO : Hid (¬ fits W0 H0 W1 H1 W2 H2 full (cntP f2 n2)) := Lib.hid (fun h => by have := h.2.2.2.2.2.1; omega)
                go_wp2
                go_ret3
                exact Or.inr ⟨HNO.out, rfl, hB.out⟩
              by_cases A5 : cntP f2 n2 = 0
              · have HNO : Hid (¬ fits W0 H0 W1 H1 W2 H2 full 0) := Lib.hid (fun h => by have := h.2.2.2.2.2.2; omega)
                have b5 : (((cntP f2 n2 : Nat) : Int) == 0) = true := by simp [A5]
                go_wp2
                go_ret3
                exact Or.inr ⟨HNO.out, rfl, hB.out⟩
              · have HFIT : Hid (fits W0 H0 W1 H1 W2 H2 full (cntP f2 n2)) := Lib.hid ⟨HQ.out.1, HQ.out.2.1, HQ.out.2.2.1, HQ.out.2.2.2, by omega, by omega, by omega⟩
                have hn1 : n0 = n1 := by
                  have e0 := G0.out.2.2.2.2.1
                  have e1 := G1.out.2.2.2.2.1
                  rw [← HQ.out.1, ← HQ.out.2.1] at e1
                  omega
                have hn2' : n0 = n2 := by
                  have e0 := G0.out.2.2.2.2.1
                  have e1 := G2.out.2.2.2.2.1
                  rw [← HQ.out.2.2.1, ← HQ.out.2.2.2] at e1
                  omega
                have HN1 := Lib.hid hn1
                have HN2 := Lib.hid hn2'
                have hcnt : 0 < cntP f2 n2 := by omega
                have b5 : (((cntP f2 n2 : Nat) : Int) == 0) = false := by simp; omega
                have hmb := mean_bd hcnt hsb.2.1 hsb.2.2
                have hn0 : n0 ≤ 65536 := by omega
                obtain ⟨i0, ji, jz0, jz1, jz2⟩ := info_parts info_int'
                clear hn1 hn2'
                go_wp2
                clear t2
                go_loopw [17, 18, 19] (fun vo vf i wr => ∃ k : Nat, k ≤ n0 ∧ i = .int .i64 k ∧ Hid (Below w.heap.size w wr) ∧ Hid (Grows w.heap.size vo (VL f0 f1 f2 (sumP f2 n2 / (cntP f2 n2 : Int)) k) wr) ∧ Hid (Grows w.heap.size vf (FL f0 full k) wr) ∧ Hid (Parted vo vf)) (fun _ _ i _ => n0 - (intOf i).toNat)
                case atStart => exact ⟨0, Nat.zero_le _, rfl, hB, Grows.nil _ _, Grows.nil _ _, Or.inl rfl⟩
                case round =>
                  clear hB
                  obtain ⟨k, hk, rfl, hB, hV, hF, hP⟩ := hrel
                  obtain ⟨⟨_, _, u2, r0⟩, ⟨_, _, v2, r1⟩, ⟨_, _, t2, r2⟩⟩ := HP.out.below hB.out
                  by_cases hkn : k < n0
                  · have hdk : decide ((k : Int) < n0) = true := by simp; omega
                    have hk1 : k < n1 := by have := HN1.out; omega
                    have hk2 : k < n2 := by have := HN2.out; omega
                    obtain ⟨ba, oa, rfl, _, e0⟩ := r0.at hkn
                    obtain ⟨bb, ob, rfl, _, e1⟩ := r1.at hk1
                    obtain ⟨bc, oc, rfl, _, e2⟩ := r2.at hk2
                    have x0 := G0.out.2.2.2.2.2 k hkn
                    have x1 := G1.out.2.2.2.2.2 k hk1
                    have x2 := HG2.out k hk2
                    have EV := Lib.hid (show VL f0 f1 f2 (sumP f2 n2 / (cntP f2 n2 : Int)) (k + 1) = VL f0 f1 f2 (sumP f2 n2 / (cntP f2 n2 : Int)) k ++ [vF (f0 k) (f1 k) (f2 k) (sumP f2 n2 / (cntP f2 n2 : Int))] from rfl)
                    have EF1 := Lib.hid (fun h => FL_yes (f0 := f0) (full := full) (k := k) h)
                    have EF2 := Lib.hid (fun h => FL_no (f0 := f0) (full := full) (k := k) h)
                    have hlV : (VL f0 f1 f2 (sumP f2 n2 / (cntP f2 n2 : Int)) k).length ≤ 65536 := by rw [VL_len]; omega
                    have hlF : (FL f0 full k).length ≤ 65536 := by have := FL_len f0 full k; omega
                    have HCV := Lib.hid (one_new wr)
                    have hsz := hB.out.size
                    clear r0 r1 r2
                    generalize VL f0 f1 f2 (sumP f2 n2 / (cntP f2 n2 : Int)) k = LV at *
                    generalize FL f0 full k = LF at *
                    generalize f0 k = kk at *
                    generalize f1 k = dd at *
                    generalize f2 k = ff at *
                    by_cases p1 : 0 < ff
                    · by_cases p2 : 0 < kk - dd
                      · obtain ⟨hl1, hl2, hl3, hl4, hl5⟩ := light_bd2 (m := (sumP f2 n2 / (cntP f2 n2 : Int))) p2 (by omega) hmb.1 hmb.2 p1
                        have EH := Lib.hid (vF_half (m := (sumP f2 n2 / (cntP f2 n2 : Int))) p1 p2)
                        by_cases p3 : ff ≤ 2 * ((kk - dd) * (sumP f2 n2 / (cntP f2 n2 : Int)) - (kk - dd) * (sumP f2 n2 / (cntP f2 n2 : Int)) / ff * ff)
                        · by_cases p4 : (kk - dd) * (sumP f2 n2 / (cntP f2 n2 : Int)) / ff + 1 ≤ 65535
                          · have EVV : Hid (vF kk dd ff (sumP f2 n2 / (cntP f2 n2 : Int)) = ((kk - dd) * (sumP f2 n2 / (cntP f2 n2 : Int)) / ff + 1)) := Lib.hid (by rw [EH.out, if_pos p3, if_pos p4])
                            have HOS := Lib.hid (fun o => World.ownsRow.alloc hV.out o)
                            have HK3 : Hid (LV.length + 1 ≤ maxLen) := Lib.hid (by unfold maxLen; omega)
                            have HK4 : Hid ((LV.length + 1) * 8 ≤ 140737488355328) := Lib.hid (by omega)
                            have HK5 : Hid (w.heap.size ≤ (wr.alloc (.cells #[.int .i64 ((kk - dd) * (sumP f2 n2 / (cntP f2 n2 : Int)) / ff + 1)] 3)).heap.size) := Lib.hid (by simp only [World.size_alloc]; omega)
                            go_wp2_with (first
                              | (at_builtin; refine wpList_append_own_at _ rfl (.tmp 181) (.tmp 183) 30 rfl w.heap.size 3 i0 (.int .i64 0) 1 8 Tryd.underlying30 ji jz0 jz1 jz2 rfl (by decide) u17 LV.length (LV.map (Value.int .i64)) rfl (HOS.out _) ⟨wr.heap.size, 0, none⟩ 1 1 [.int .i64 ((kk - dd) * (sumP f2 n2 / (cntP f2 n2 : Int)) / ff + 1)] rfl rfl (HCV.out _ _) (one_cell _) HK3.out HK4.out HK5.out ?_)
                              | fail)
                            intro vc6 w6 hown hgrow _ hat
                            obtain ⟨hV6, hF6, hP6⟩ := hF.out.step hP.out hown hgrow hat
                            have hB6 := (hB.out.alloc hB.out.size _).grown hgrow (by simp only [World.size_alloc]; omega) (fun k hk => hV.out.low k hk)
                            have HV6 := Lib.hid hV6
                            have HF6 := Lib.hid hF6
                            have HP6 := Lib.hid hP6
                            have HB6 := Lib.hid hB6
                            have hs6 := hB6.size
                            clear hown hgrow hat hV6 hF6 hP6 hB6 hB hV hF hP HOS HK3 HK4 HK5 HCV
                            by_cases hfull : full ≤ kk
                            · have EFF := Lib.hid (EF1.out (by omega))
                              have HOS := Lib.hid (fun o => World.ownsRow.alloc HF6.out o)
                              have HK1 := Lib.hid (one_new w6 (k : Int))
                              have HK3 : Hid (LF.length + 1 ≤ maxLen) := Lib.hid (by unfold maxLen; omega)
                              have HK4 : Hid ((LF.length + 1) * 8 ≤ 140737488355328) := Lib.hid (by omega)
                              have HK5 : Hid (w.heap.size ≤ (w6.alloc (.cells #[.int .i64 (k : Int)] 3)).heap.size) := Lib.hid (by simp only [World.size_alloc]; omega)
                              go_wp2_with (first
                                | (at_builtin; refine wpList_append_own_at _ rfl (.tmp 188) (.tmp 190) 30 rfl w.heap.size 3 i0 (.int .i64 0) 1 8 Tryd.underlying30 ji jz0 jz1 jz2 rfl (by decide) u18 LF.length (LF.map (Value.int .i64)) rfl (HOS.out _) ⟨w6.heap.size, 0, none⟩ 1 1 [.int .i64 (k : Int)] rfl rfl (HK1.out _) (one_cell _) HK3.out HK4.out HK5.out ?_)
                                | fail)
                              intro vf6 w7 hown hgrow _ hat
                              obtain ⟨hF7, hV7, hP7⟩ := HV6.out.step HP6.out.symm hown hgrow hat
                              have HB7 := Lib.hid ((HB6.out.alloc HB6.out.size _).grown hgrow (by simp only [World.size_alloc]; omega) (fun k hk => HF6.out.low k hk))
                              have HF7 := Lib.hid hF7
                              have HV7 := Lib.hid hV7
                              have HP7 := Lib.hid hP7.symm
                              clear hown hgrow hat hF7 hV7 hP7 HV6 HF6 HP6 HB6 HOS HK1 HK3 HK4 HK5
                              go_wp2
                              go_roundw
                              case rel => exact ⟨k + 1, by omega, by go_num, HB7, by rw [EV.out, EVV.out]; exact HV7, by rw [EFF.out]; exact HF7, HP7⟩
                              case measure => simp [intOf]; omega
                            · have EFF := Lib.hid (EF2.out (by omega))
                              go_wp2
                              go_roundw
                              case rel => exact ⟨k + 1, by omega, by go_num, HB6, by rw [EV.out, EVV.out]; exact HV6, by rw [EFF.out]; exact HF6, HP6⟩
                              case measure => simp [intOf]; omega
                          · have EVV : Hid (vF kk dd ff (sumP f2 n2 / (cntP f2 n2 : Int)) = 65535) := Lib.hid (by rw [EH.out, if_pos p3, if_neg p4])
                            have HOS := Lib.hid (fun o => World.ownsRow.alloc hV.out o)
                            have HK3 : Hid (LV.length + 1 ≤ maxLen) := Lib.hid (by unfold maxLen; omega)
                            have HK4 : Hid ((LV.length + 1) * 8 ≤ 140737488355328) := Lib.hid (by omega)
                            have HK5 : Hid (w.heap.size ≤ (wr.alloc (.cells #[.int .i64 65535] 3)).heap.size) := Lib.hid (by simp only [World.size_alloc]; omega)
                            go_wp2_with (first
                              | (at_builtin; refine wpList_append_own_at _ rfl (.tmp 181) (.tmp 183) 30 rfl w.heap.size 3 i0 (.int .i64 0) 1 8 Tryd.underlying30 ji jz0 jz1 jz2 rfl (by decide) u17 LV.length (LV.map (Value.int .i64)) rfl (HOS.out _) ⟨wr.heap.size, 0, none⟩ 1 1 [.int .i64 65535] rfl rfl (HCV.out _ _) (one_cell _) HK3.out HK4.out HK5.out ?_)
                              | fail)
                            intro vc6 w6 hown hgrow _ hat
                            obtain ⟨hV6, hF6, hP6⟩ := hF.out.step hP.out hown hgrow hat
                            have hB6 := (hB.out.alloc hB.out.size _).grown hgrow (by simp only [World.size_alloc]; omega) (fun k hk => hV.out.low k hk)
                            have HV6 := Lib.hid hV6
                            have HF6 := Lib.hid hF6
                            have HP6 := Lib.hid hP6
                            have HB6 := Lib.hid hB6
                            have hs6 := hB6.size
                            clear hown hgrow hat hV6 hF6 hP6 hB6 hB hV hF hP HOS HK3 HK4 HK5 HCV
                            by_cases hfull : full ≤ kk
                            · have EFF := Lib.hid (EF1.out (by omega))
                              have HOS := Lib.hid (fun o => World.ownsRow.alloc HF6.out o)
                              have HK1 := Lib.hid (one_new w6 (k : Int))
                              have HK3 : Hid (LF.length + 1 ≤ maxLen) := Lib.hid (by unfold maxLen; omega)
                              have HK4 : Hid ((LF.length + 1) * 8 ≤ 140737488355328) := Lib.hid (by omega)
                              have HK5 : Hid (w.heap.size ≤ (w6.alloc (.cells #[.int .i64 (k : Int)] 3)).heap.size) := Lib.hid (by simp only [World.size_alloc]; omega)
                              go_wp2_with (first
                                | (at_builtin; refine wpList_append_own_at _ rfl (.tmp 188) (.tmp 190) 30 rfl w.heap.size 3 i0 (.int .i64 0) 1 8 Tryd.underlying30 ji jz0 jz1 jz2 rfl (by decide) u18 LF.length (LF.map (Value.int .i64)) rfl (HOS.out _) ⟨w6.heap.size, 0, none⟩ 1 1 [.int .i64 (k : Int)] rfl rfl (HK1.out _) (one_cell _) HK3.out HK4.out HK5.out ?_)
                                | fail)
                              intro vf6 w7 hown hgrow _ hat
                              obtain ⟨hF7, hV7, hP7⟩ := HV6.out.step HP6.out.symm hown hgrow hat
                              have HB7 := Lib.hid ((HB6.out.alloc HB6.out.size _).grown hgrow (by simp only [World.size_alloc]; omega) (fun k hk => HF6.out.low k hk))
                              have HF7 := Lib.hid hF7
                              have HV7 := Lib.hid hV7
                              have HP7 := Lib.hid hP7.symm
                              clear hown hgrow hat hF7 hV7 hP7 HV6 HF6 HP6 HB6 HOS HK1 HK3 HK4 HK5
                              go_wp2
                              go_roundw
                              case rel => exact ⟨k + 1, by omega, by go_num, HB7, by rw [EV.out, EVV.out]; exact HV7, by rw [EFF.out]; exact HF7, HP7⟩
                              case measure => simp [intOf]; omega
                            · have EFF := Lib.hid (EF2.out (by omega))
                              go_wp2
                              go_roundw
                              case rel => exact ⟨k + 1, by omega, by go_num, HB6, by rw [EV.out, EVV.out]; exact HV6, by rw [EFF.out]; exact HF6, HP6⟩
                              case measure => simp [intOf]; omega
                        · by_cases p4 : (kk - dd) * (sumP f2 n2 / (cntP f2 n2 : Int)) / ff ≤ 65535
                          · have EVV : Hid (vF kk dd ff (sumP f2 n2 / (cntP f2 n2 : Int)) = ((kk - dd) * (sumP f2 n2 / (cntP f2 n2 : Int)) / ff)) := Lib.hid (by rw [EH.out, if_neg p3, if_pos p4])
                            have HOS := Lib.hid (fun o => World.ownsRow.alloc hV.out o)
                            have HK3 : Hid (LV.length + 1 ≤ maxLen) := Lib.hid (by unfold maxLen; omega)
                            have HK4 : Hid ((LV.length + 1) * 8 ≤ 140737488355328) := Lib.hid (by omega)
                            have HK5 : Hid (w.heap.size ≤ (wr.alloc (.cells #[.int .i64 ((kk - dd) * (sumP f2 n2 / (cntP f2 n2 : Int)) / ff)] 3)).heap.size) := Lib.hid (by simp only [World.size_alloc]; omega)
                            go_wp2_with (first
                              | (at_builtin; refine wpList_append_own_at _ rfl (.tmp 181) (.tmp 183) 30 rfl w.heap.size 3 i0 (.int .i64 0) 1 8 Tryd.underlying30 ji jz0 jz1 jz2 rfl (by decide) u17 LV.length (LV.map (Value.int .i64)) rfl (HOS.out _) ⟨wr.heap.size, 0, none⟩ 1 1 [.int .i64 ((kk - dd) * (sumP f2 n2 / (cntP f2 n2 : Int)) / ff)] rfl rfl (HCV.out _ _) (one_cell _) HK3.out HK4.out HK5.out ?_)
                              | fail)
                            intro vc6 w6 hown hgrow _ hat
                            obtain ⟨hV6, hF6, hP6⟩ := hF.out.step hP.out hown hgrow hat
                            have hB6 := (hB.out.alloc hB.out.size _).grown hgrow (by simp only [World.size_alloc]; omega) (fun k hk => hV.out.low k hk)
                            have HV6 := Lib.hid hV6
                            have HF6 := Lib.hid hF6
                            have HP6 := Lib.hid hP6
                            have HB6 := Lib.hid hB6
                            have hs6 := hB6.size
                            clear hown hgrow hat hV6 hF6 hP6 hB6 hB hV hF hP HOS HK3 HK4 HK5 HCV
                            by_cases hfull : full ≤ kk
                            · have EFF := Lib.hid (EF1.out (by omega))
                              have HOS := Lib.hid (fun o => World.ownsRow.alloc HF6.out o)
                              have HK1 := Lib.hid (one_new w6 (k : Int))
                              have HK3 : Hid (LF.length + 1 ≤ maxLen) := Lib.hid (by unfold maxLen; omega)
                              have HK4 : Hid ((LF.length + 1) * 8 ≤ 140737488355328) := Lib.hid (by omega)
                              have HK5 : Hid (w.heap.size ≤ (w6.alloc (.cells #[.int .i64 (k : Int)] 3)).heap.size) := Lib.hid (by simp only [World.size_alloc]; omega)
                              go_wp2_with (first
                                | (at_builtin; refine wpList_append_own_at _ rfl (.tmp 188) (.tmp 190) 30 rfl w.heap.size 3 i0 (.int .i64 0) 1 8 Tryd.underlying30 ji jz0 jz1 jz2 rfl (by decide) u18 LF.length (LF.map (Value.int .i64)) rfl (HOS.out _) ⟨w6.heap.size, 0, none⟩ 1 1 [.int .i64 (k : Int)] rfl rfl (HK1.out _) (one_cell _) HK3.out HK4.out HK5.out ?_)
                                | fail)
                              intro vf6 w7 hown hgrow _ hat
                              obtain ⟨hF7, hV7, hP7⟩ := HV6.out.step HP6.out.symm hown hgrow hat
                              have HB7 := Lib.hid ((HB6.out.alloc HB6.out.size _).grown hgrow (by simp only [World.size_alloc]; omega) (fun k hk => HF6.out.low k hk))
                              have HF7 := Lib.hid hF7
                              have HV7 := Lib.hid hV7
                              have HP7 := Lib.hid hP7.symm
                              clear hown hgrow hat hF7 hV7 hP7 HV6 HF6 HP6 HB6 HOS HK1 HK3 HK4 HK5
                              go_wp2
                              go_roundw
                              case rel => exact ⟨k + 1, by omega, by go_num, HB7, by rw [EV.out, EVV.out]; exact HV7, by rw [EFF.out]; exact HF7, HP7⟩
                              case measure => simp [intOf]; omega
                            · have EFF := Lib.hid (EF2.out (by omega))
                              go_wp2
                              go_roundw
                              case rel => exact ⟨k + 1, by omega, by go_num, HB6, by rw [EV.out, EVV.out]; exact HV6, by rw [EFF.out]; exact HF6, HP6⟩
                              case measure => simp [intOf]; omega
                          · have EVV : Hid (vF kk dd ff (sumP f2 n2 / (cntP f2 n2 : Int)) = 65535) := Lib.hid (by rw [EH.out, if_neg p3, if_neg p4])
                            have HOS := Lib.hid (fun o => World.ownsRow.alloc hV.out o)
                            have HK3 : Hid (LV.length + 1 ≤ maxLen) := Lib.hid (by unfold maxLen; omega)
                            have HK4 : Hid ((LV.length + 1) * 8 ≤ 140737488355328) := Lib.hid (by omega)
                            have HK5 : Hid (w.heap.size ≤ (wr.alloc (.cells #[.int .i64 65535] 3)).heap.size) := Lib.hid (by simp only [World.size_alloc]; omega)
                            go_wp2_with (first
                              | (at_builtin; refine wpList_append_own_at _ rfl (.tmp 181) (.tmp 183) 30 rfl w.heap.size 3 i0 (.int .i64 0) 1 8 Tryd.underlying30 ji jz0 jz1 jz2 rfl (by decide) u17 LV.length (LV.map (Value.int .i64)) rfl (HOS.out _) ⟨wr.heap.size, 0, none⟩ 1 1 [.int .i64 65535] rfl rfl (HCV.out _ _) (one_cell _) HK3.out HK4.out HK5.out ?_)
                              | fail)
                            intro vc6 w6 hown hgrow _ hat
                            obtain ⟨hV6, hF6, hP6⟩ := hF.out.step hP.out hown hgrow hat
                            have hB6 := (hB.out.alloc hB.out.size _).grown hgrow (by simp only [World.size_alloc]; omega) (fun k hk => hV.out.low k hk)
                            have HV6 := Lib.hid hV6
                            have HF6 := Lib.hid hF6
                            have HP6 := Lib.hid hP6
                            have HB6 := Lib.hid hB6
                            have hs6 := hB6.size
                            clear hown hgrow hat hV6 hF6 hP6 hB6 hB hV hF hP HOS HK3 HK4 HK5 HCV
                            by_cases hfull : full ≤ kk
                            · have EFF := Lib.hid (EF1.out (by omega))
                              have HOS := Lib.hid (fun o => World.ownsRow.alloc HF6.out o)
                              have HK1 := Lib.hid (one_new w6 (k : Int))
                              have HK3 : Hid (LF.length + 1 ≤ maxLen) := Lib.hid (by unfold maxLen; omega)
                              have HK4 : Hid ((LF.length + 1) * 8 ≤ 140737488355328) := Lib.hid (by omega)
                              have HK5 : Hid (w.heap.size ≤ (w6.alloc (.cells #[.int .i64 (k : Int)] 3)).heap.size) := Lib.hid (by simp only [World.size_alloc]; omega)
                              go_wp2_with (first
                                | (at_builtin; refine wpList_append_own_at _ rfl (.tmp 188) (.tmp 190) 30 rfl w.heap.size 3 i0 (.int .i64 0) 1 8 Tryd.underlying30 ji jz0 jz1 jz2 rfl (by decide) u18 LF.length (LF.map (Value.int .i64)) rfl (HOS.out _) ⟨w6.heap.size, 0, none⟩ 1 1 [.int .i64 (k : Int)] rfl rfl (HK1.out _) (one_cell _) HK3.out HK4.out HK5.out ?_)
                                | fail)
                              intro vf6 w7 hown hgrow _ hat
                              obtain ⟨hF7, hV7, hP7⟩ := HV6.out.step HP6.out.symm hown hgrow hat
                              have HB7 := Lib.hid ((HB6.out.alloc HB6.out.size _).grown hgrow (by simp only [World.size_alloc]; omega) (fun k hk => HF6.out.low k hk))
                              have HF7 := Lib.hid hF7
                              have HV7 := Lib.hid hV7
                              have HP7 := Lib.hid hP7.symm
                              clear hown hgrow hat hF7 hV7 hP7 HV6 HF6 HP6 HB6 HOS HK1 HK3 HK4 HK5
                              go_wp2
                              go_roundw
                              case rel => exact ⟨k + 1, by omega, by go_num, HB7, by rw [EV.out, EVV.out]; exact HV7, by rw [EFF.out]; exact HF7, HP7⟩
                              case measure => simp [intOf]; omega
                            · have EFF := Lib.hid (EF2.out (by omega))
                              go_wp2
                              go_roundw
                              case rel => exact ⟨k + 1, by omega, by go_num, HB6, by rw [EV.out, EVV.out]; exact HV6, by rw [EFF.out]; exact HF6, HP6⟩
                              case measure => simp [intOf]; omega
                      · have EVV : Hid (vF kk dd ff (sumP f2 n2 / (cntP f2 n2 : Int)) = 0) := Lib.hid (vF_no (fun h => p2 h.2))
                        have HOS := Lib.hid (fun o => World.ownsRow.alloc hV.out o)
                        have HK3 : Hid (LV.length + 1 ≤ maxLen) := Lib.hid (by unfold maxLen; omega)
                        have HK4 : Hid ((LV.length + 1) * 8 ≤ 140737488355328) := Lib.hid (by omega)
                        have HK5 : Hid (w.heap.size ≤ (wr.alloc (.cells #[.int .i64 0] 3)).heap.size) := Lib.hid (by simp only [World.size_alloc]; omega)
                        go_wp2_with (first
                          | (at_builtin; refine wpList_append_own_at _ rfl (.tmp 181) (.tmp 183) 30 rfl w.heap.size 3 i0 (.int .i64 0) 1 8 Tryd.underlying30 ji jz0 jz1 jz2 rfl (by decide) u17 LV.length (LV.map (Value.int .i64)) rfl (HOS.out _) ⟨wr.heap.size, 0, none⟩ 1 1 [.int .i64 0] rfl rfl (HCV.out _ _) (one_cell _) HK3.out HK4.out HK5.out ?_)
                          | fail)
                        intro vc6 w6 hown hgrow _ hat
                        obtain ⟨hV6, hF6, hP6⟩ := hF.out.step hP.out hown hgrow hat
                        have hB6 := (hB.out.alloc hB.out.size _).grown hgrow (by simp only [World.size_alloc]; omega) (fun k hk => hV.out.low k hk)
                        have HV6 := Lib.hid hV6
                        have HF6 := Lib.hid hF6
                        have HP6 := Lib.hid hP6
                        have HB6 := Lib.hid hB6
                        have hs6 := hB6.size
                        clear hown hgrow hat hV6 hF6 hP6 hB6 hB hV hF hP HOS HK3 HK4 HK5 HCV
                        by_cases hfull : full ≤ kk
                        · have EFF := Lib.hid (EF1.out (by omega))
                          have HOS := Lib.hid (fun o => World.ownsRow.alloc HF6.out o)
                          have HK1 := Lib.hid (one_new w6 (k : Int))
                          have HK3 : Hid (LF.length + 1 ≤ maxLen) := Lib.hid (by unfold maxLen; omega)
                          have HK4 : Hid ((LF.length + 1) * 8 ≤ 140737488355328) := Lib.hid (by omega)
                          have HK5 : Hid (w.heap.size ≤ (w6.alloc (.cells #[.int .i64 (k : Int)] 3)).heap.size) := Lib.hid (by simp only [World.size_alloc]; omega)
                          go_wp2_with (first
                            | (at_builtin; refine wpList_append_own_at _ rfl (.tmp 188) (.tmp 190) 30 rfl w.heap.size 3 i0 (.int .i64 0) 1 8 Tryd.underlying30 ji jz0 jz1 jz2 rfl (by decide) u18 LF.length (LF.map (Value.int .i64)) rfl (HOS.out _) ⟨w6.heap.size, 0, none⟩ 1 1 [.int .i64 (k : Int)] rfl rfl (HK1.out _) (one_cell _) HK3.out HK4.out HK5.out ?_)
                            | fail)
                          intro vf6 w7 hown hgrow _ hat
                          obtain ⟨hF7, hV7, hP7⟩ := HV6.out.step HP6.out.symm hown hgrow hat
                          have HB7 := Lib.hid ((HB6.out.alloc HB6.out.size _).grown hgrow (by simp only [World.size_alloc]; omega) (fun k hk => HF6.out.low k hk))
                          have HF7 := Lib.hid hF7
                          have HV7 := Lib.hid hV7
                          have HP7 := Lib.hid hP7.symm
                          clear hown hgrow hat hF7 hV7 hP7 HV6 HF6 HP6 HB6 HOS HK1 HK3 HK4 HK5
                          go_wp2
                          go_roundw
                          case rel => exact ⟨k + 1, by omega, by go_num, HB7, by rw [EV.out, EVV.out]; exact HV7, by rw [EFF.out]; exact HF7, HP7⟩
                          case measure => simp [intOf]; omega
                        · have EFF := Lib.hid (EF2.out (by omega))
                          go_wp2
                          go_roundw
                          case rel => exact ⟨k + 1, by omega, by go_num, HB6, by rw [EV.out, EVV.out]; exact HV6, by rw [EFF.out]; exact HF6, HP6⟩
                          case measure => simp [intOf]; omega
                    · have EVV : Hid (vF kk dd ff (sumP f2 n2 / (cntP f2 n2 : Int)) = 0) := Lib.hid (vF_no (fun h => p1 h.1))
                      have HOS := Lib.hid (fun o => World.ownsRow.alloc hV.out o)
                      have HK3 : Hid (LV.length + 1 ≤ maxLen) := Lib.hid (by unfold maxLen; omega)
                      have HK4 : Hid ((LV.length + 1) * 8 ≤ 140737488355328) := Lib.hid (by omega)
                      have HK5 : Hid (w.heap.size ≤ (wr.alloc (.cells #[.int .i64 0] 3)).heap.size) := Lib.hid (by simp only [World.size_alloc]; omega)
                      go_wp2_with (first
                        | (at_builtin; refine wpList_append_own_at _ rfl (.tmp 181) (.tmp 183) 30 rfl w.heap.size 3 i0 (.int .i64 0) 1 8 Tryd.underlying30 ji jz0 jz1 jz2 rfl (by decide) u17 LV.length (LV.map (Value.int .i64)) rfl (HOS.out _) ⟨wr.heap.size, 0, none⟩ 1 1 [.int .i64 0] rfl rfl (HCV.out _ _) (one_cell _) HK3.out HK4.out HK5.out ?_)
                        | fail)
                      intro vc6 w6 hown hgrow _ hat
                      obtain ⟨hV6, hF6, hP6⟩ := hF.out.step hP.out hown hgrow hat
                      have hB6 := (hB.out.alloc hB.out.size _).grown hgrow (by simp only [World.size_alloc]; omega) (fun k hk => hV.out.low k hk)
                      have HV6 := Lib.hid hV6
                      have HF6 := Lib.hid hF6
                      have HP6 := Lib.hid hP6
                      have HB6 := Lib.hid hB6
                      have hs6 := hB6.size
                      clear hown hgrow hat hV6 hF6 hP6 hB6 hB hV hF hP HOS HK3 HK4 HK5 HCV
                      by_cases hfull : full ≤ kk
                      · have EFF := Lib.hid (EF1.out (by omega))
                        have HOS := Lib.hid (fun o => World.ownsRow.alloc HF6.out o)
                        have HK1 := Lib.hid (one_new w6 (k : Int))
                        have HK3 : Hid (LF.length + 1 ≤ maxLen) := Lib.hid (by unfold maxLen; omega)
                        have HK4 : Hid ((LF.length + 1) * 8 ≤ 140737488355328) := Lib.hid (by omega)
                        have HK5 : Hid (w.heap.size ≤ (w6.alloc (.cells #[.int .i64 (k : Int)] 3)).heap.size) := Lib.hid (by simp only [World.size_alloc]; omega)
                        go_wp2_with (first
                          | (at_builtin; refine wpList_append_own_at _ rfl (.tmp 188) (.tmp 190) 30 rfl w.heap.size 3 i0 (.int .i64 0) 1 8 Tryd.underlying30 ji jz0 jz1 jz2 rfl (by decide) u18 LF.length (LF.map (Value.int .i64)) rfl (HOS.out _) ⟨w6.heap.size, 0, none⟩ 1 1 [.int .i64 (k : Int)] rfl rfl (HK1.out _) (one_cell _) HK3.out HK4.out HK5.out ?_)
                          | fail)
                        intro vf6 w7 hown hgrow _ hat
                        obtain ⟨hF7, hV7, hP7⟩ := HV6.out.step HP6.out.symm hown hgrow hat
                        have HB7 := Lib.hid ((HB6.out.alloc HB6.out.size _).grown hgrow (by simp only [World.size_alloc]; omega) (fun k hk => HF6.out.low k hk))
                        have HF7 := Lib.hid hF7
                        have HV7 := Lib.hid hV7
                        have HP7 := Lib.hid hP7.symm
                        clear hown hgrow hat hF7 hV7 hP7 HV6 HF6 HP6 HB6 HOS HK1 HK3 HK4 HK5
                        go_wp2
                        go_roundw
                        case rel => exact ⟨k + 1, by omega, by go_num, HB7, by rw [EV.out, EVV.out]; exact HV7, by rw [EFF.out]; exact HF7, HP7⟩
                        case measure => simp [intOf]; omega
                      · have EFF := Lib.hid (EF2.out (by omega))
                        go_wp2
                        go_roundw
                        case rel => exact ⟨k + 1, by omega, by go_num, HB6, by rw [EV.out, EVV.out]; exact HV6, by rw [EFF.out]; exact HF6, HP6⟩
                        case measure => simp [intOf]; omega
                  · obtain rfl : n0 = k := by omega
                    obtain ⟨av, cv, eV, hRV⟩ := hV.out.row
                    rw [VL_len] at eV hRV
                    subst eV
                    obtain ⟨af, cf, rfl, hRF⟩ := hF.out.row
                    have HRV := Lib.hid hRV
                    have HRF := Lib.hid hRF
                    clear hRV hRF hV hF hP r0 r1 r2
                    go_wp2
                    go_ret3
                    exact Or.inl ⟨HFIT.out, av, af, cv, cf, rfl, HRV.out, HRF.out, hB.out⟩
        · have B3 : (H0 == H2) = false := by simpa using Q3
          have HNO : Hid (¬ fits W0 H0 W1 H1 W2 H2 full (cntP f2 n2)) := Lib.hid (fun h => Q3 (h.2.2.2.1))
          clear Q3
          go_wp2
          go_quiet (fail)
          go_wp2
          clear u0 u1 u2 v0 v1 v2 t0 t1 t2
          have HB4 : Hid (Below w.heap.size w (w3.drewN nq)) := Lib.hid (below_drewN HB3.out _)
          go_loopw [13, 14, 15] (fun s c i wr => ∃ k : Nat, k ≤ n2 ∧ i = .int .i64 k ∧ s = .int .i64 (sumP f2 k) ∧ c = .int .i64 (cntP f2 k : Nat) ∧ Hid (Below w.heap.size w wr)) (fun _ _ i _ => n2 - (intOf i).toNat)
          case atStart => exact ⟨0, Nat.zero_le _, rfl, rfl, rfl, HB4⟩
          case round =>
            clear HB4
            obtain ⟨k, hk, rfl, rfl, rfl, hB⟩ := hrel
            have hsb := HSB.out k hk
            obtain ⟨_, _, _, _, t2, hR2⟩ := HP.out.below hB.out
            by_cases hkn : k < n2
            · obtain ⟨b, o, rfl, _, c1⟩ := hR2.at hkn
              have hx := HG2.out k hkn
              clear hR2
              by_cases hp : 0 < f2 k
              · have E1 := Lib.hid (show sumP f2 (k + 1) = sumP f2 k + f2 k from if_pos hp)
                have E2 := Lib.hid (show cntP f2 (k + 1) = cntP f2 k + 1 from if_pos hp)
                have bn : (f2 k != 0) = true := by rw [bne_iff_ne]; omega
                go_wp2
                go_roundw
                case rel => exact ⟨k + 1, by omega, by go_num, by rw [E1.out], by rw [E2.out]; go_num, hB⟩
                case measure => simp [intOf]; omega
              · have E1 := Lib.hid (show sumP f2 (k + 1) = sumP f2 k from if_neg hp)
                have E2 := Lib.hid (show cntP f2 (k + 1) = cntP f2 k from if_neg hp)
                have hz : f2 k = 0 := by omega
                rw [hz] at c1
                clear hz hp hx
                go_wp2
                go_roundw
                case rel => exact ⟨k + 1, by omega, by go_num, by rw [E1.out], by rw [E2.out], hB⟩
                case measure => simp [intOf]; omega
            · obtain rfl : n2 = k := by omega
              clear hR2
              go_wp2
              go_ret3
              exact Or.inr ⟨HNO.out, rfl, hB.out⟩
      · have B2 : (W0 == W2) = false := by simpa using Q2
        have HNO : Hid (¬ fits W0 H0 W1 H1 W2 H2 full (cntP f2 n2)) := Lib.hid (fun h => Q2 (h.2.2.1))
        clear Q2
        go_wp2
        go_quiet (fail)
        go_wp2
        clear u0 u1 u2 v0 v1 v2 t0 t1 t2
        have HB4 : Hid (Below w.heap.size w (w3.drewN nq)) := Lib.hid (below_drewN HB3.out _)
        go_loopw [13, 14, 15] (fun s c i wr => ∃ k : Nat, k ≤ n2 ∧ i = .int .i64 k ∧ s = .int .i64 (sumP f2 k) ∧ c = .int .i64 (cntP f2 k : Nat) ∧ Hid (Below w.heap.size w wr)) (fun _ _ i _ => n2 - (intOf i).toNat)
        case atStart => exact ⟨0, Nat.zero_le _, rfl, rfl, rfl, HB4⟩
        case round =>
          clear HB4
          obtain ⟨k, hk, rfl, rfl, rfl, hB⟩ := hrel
          have hsb := HSB.out k hk
          obtain ⟨_, _, _, _, t2, hR2⟩ := HP.out.below hB.out
          by_cases hkn : k < n2
          · obtain ⟨b, o, rfl, _, c1⟩ := hR2.at hkn
            have hx := HG2.out k hkn
            clear hR2
            by_cases hp : 0 < f2 k
            · have E1 := Lib.hid (show sumP f2 (k + 1) = sumP f2 k + f2 k from if_pos hp)
              have E2 := Lib.hid (show cntP f2 (k + 1) = cntP f2 k + 1 from if_pos hp)
              have bn : (f2 k != 0) = true := by rw [bne_iff_ne]; omega
              go_wp2
              go_roundw
              case rel => exact ⟨k + 1, by omega, by go_num, by rw [E1.out], by rw [E2.out]; go_num, hB⟩
              case measure => simp [intOf]; omega
            · have E1 := Lib.hid (show sumP f2 (k + 1) = sumP f2 k from if_neg hp)
              have E2 := Lib.hid (show cntP f2 (k + 1) = cntP f2 k from if_neg hp)
              have hz : f2 k = 0 := by omega
              rw [hz] at c1
              clear hz hp hx
              go_wp2
              go_roundw
              case rel => exact ⟨k + 1, by omega, by go_num, by rw [E1.out], by rw [E2.out], hB⟩
              case measure => simp [intOf]; omega
          · obtain rfl : n2 = k := by omega
            clear hR2
            go_wp2
            go_ret3
            exact Or.inr ⟨HNO.out, rfl, hB.out⟩
    · have B1 : (H0 == H1) = false := by simpa using Q1
      have HNO : Hid (¬ fits W0 H0 W1 H1 W2 H2 full (cntP f2 n2)) := Lib.hid (fun h => Q1 (h.2.1))
      clear Q1
      go_wp2
      go_quiet (fail)
      go_wp2
      clear u0 u1 u2 v0 v1 v2 t0 t1 t2
      have HB4 : Hid (Below w.heap.size w (w3.drewN nq)) := Lib.hid (below_drewN HB3.out _)
      go_loopw [13, 14, 15] (fun s c i wr => ∃ k : Nat, k ≤ n2 ∧ i = .int .i64 k ∧ s = .int .i64 (sumP f2 k) ∧ c = .int .i64 (cntP f2 k : Nat) ∧ Hid (Below w.heap.size w wr)) (fun _ _ i _ => n2 - (intOf i).toNat)
      case atStart => exact ⟨0, Nat.zero_le _, rfl, rfl, rfl, HB4⟩
      case round =>
        clear HB4
        obtain ⟨k, hk, rfl, rfl, rfl, hB⟩ := hrel
        have hsb := HSB.out k hk
        obtain ⟨_, _, _, _, t2, hR2⟩ := HP.out.below hB.out
        by_cases hkn : k < n2
        · obtain ⟨b, o, rfl, _, c1⟩ := hR2.at hkn
          have hx := HG2.out k hkn
          clear hR2
          by_cases hp : 0 < f2 k
          · have E1 := Lib.hid (show sumP f2 (k + 1) = sumP f2 k + f2 k from if_pos hp)
            have E2 := Lib.hid (show cntP f2 (k + 1) = cntP f2 k + 1 from if_pos hp)
            have bn : (f2 k != 0) = true := by rw [bne_iff_ne]; omega
            go_wp2
            go_roundw
            case rel => exact ⟨k + 1, by omega, by go_num, by rw [E1.out], by rw [E2.out]; go_num, hB⟩
            case measure => simp [intOf]; omega
          · have E1 := Lib.hid (show sumP f2 (k + 1) = sumP f2 k from if_neg hp)
            have E2 := Lib.hid (show cntP f2 (k + 1) = cntP f2 k from if_neg hp)
            have hz : f2 k = 0 := by omega
            rw [hz] at c1
            clear hz hp hx
            go_wp2
            go_roundw
            case rel => exact ⟨k + 1, by omega, by go_num, by rw [E1.out], by rw [E2.out], hB⟩
            case measure => simp [intOf]; omega
        · obtain rfl : n2 = k := by omega
          clear hR2
          go_wp2
          go_ret3
          exact Or.inr ⟨HNO.out, rfl, hB.out⟩
  · have B0 : (W0 == W1) = false := by simpa using Q0
    have HNO : Hid (¬ fits W0 H0 W1 H1 W2 H2 full (cntP f2 n2)) := Lib.hid (fun h => Q0 (h.1))
    clear Q0
    go_wp2
    go_quiet (fail)
    go_wp2
    clear u0 u1 u2 v0 v1 v2 t0 t1 t2
    have HB4 : Hid (Below w.heap.size w (w3.drewN nq)) := Lib.hid (below_drewN HB3.out _)
    go_loopw [13, 14, 15] (fun s c i wr => ∃ k : Nat, k ≤ n2 ∧ i = .int .i64 k ∧ s = .int .i64 (sumP f2 k) ∧ c = .int .i64 (cntP f2 k : Nat) ∧ Hid (Below w.heap.size w wr)) (fun _ _ i _ => n2 - (intOf i).toNat)
    case atStart => exact ⟨0, Nat.zero_le _, rfl, rfl, rfl, HB4⟩
    case round =>
      clear HB4
      obtain ⟨k, hk, rfl, rfl, rfl, hB⟩ := hrel
      have hsb := HSB.out k hk
      obtain ⟨_, _, _, _, t2, hR2⟩ := HP.out.below hB.out
      by_cases hkn : k < n2
      · obtain ⟨b, o, rfl, _, c1⟩ := hR2.at hkn
        have hx := HG2.out k hkn
        clear hR2
        by_cases hp : 0 < f2 k
        · have E1 := Lib.hid (show sumP f2 (k + 1) = sumP f2 k + f2 k from if_pos hp)
          have E2 := Lib.hid (show cntP f2 (k + 1) = cntP f2 k + 1 from if_pos hp)
          have bn : (f2 k != 0) = true := by rw [bne_iff_ne]; omega
          go_wp2
          go_roundw
          case rel => exact ⟨k + 1, by omega, by go_num, by rw [E1.out], by rw [E2.out]; go_num, hB⟩
          case measure => simp [intOf]; omega
        · have E1 := Lib.hid (show sumP f2 (k + 1) = sumP f2 k from if_neg hp)
          have E2 := Lib.hid (show cntP f2 (k + 1) = cntP f2 k from if_neg hp)
          have hz : f2 k = 0 := by omega
          rw [hz] at c1
          clear hz hp hx
          go_wp2
          go_roundw
          case rel => exact ⟨k + 1, by omega, by go_num, by rw [E1.out], by rw [E2.out], hB⟩
          case measure => simp [intOf]; omega
      · obtain rfl : n2 = k := by omega
        clear hR2
        go_wp2
        go_ret3
        exact Or.inr ⟨HNO.out, rfl, hB.out⟩
end Go.Proofs.YtegnjiecninlaaaDoor
