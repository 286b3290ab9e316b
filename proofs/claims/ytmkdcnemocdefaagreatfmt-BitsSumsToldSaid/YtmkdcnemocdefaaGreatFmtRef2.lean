/- The reference's SumOf. -/
import Derived.Test.YtmkdcnemocdefaaGreatFmtRef1
namespace Go.Proofs.YtmkdcnemocdefaaGreatFmt
open Go.RowKit

theorem none_ne : ((none : Option Ordering) != some Ordering.eq) = true := rfl
theorem pow_cast (B : Nat) : ((2 ^ B : Nat) : Int) = (2 : Int) ^ B := by simp
theorem abs_pow {V : Int} {B : Nat} (h : V.natAbs < 2 ^ B) : -((2 : Int) ^ B) < V ∧ V < (2 : Int) ^ B := by
  rw [← pow_cast]
  generalize (2 : Nat) ^ B = M at *
  omega
theorem ref_end {w wr : World} {f : Nat → Nat} {n : Nat} (h : RefLo w wr f n) (hn : n ≤ 300) :
    Calls Tryz.prog 20 #[.pointer (some ⟨w.heap.size + 1, 0, none⟩)] wr fun en w' => en = .returned (.int .i64 (if totW f n < 0 then -1 else 1)) ∧ Lev w' (w.heap.size + 1) w.heap.size (totW f n).natAbs ∧ Below w.heap.size w w' := by
  obtain ⟨F, h1, h2, h3, h4⟩ := h
  have hV := abs_pow (tot_all f n (32 * 72) hn (by decide))
  rw [← h2] at hV ⊢
  refine (level_any (w.heap.size + 1) w.heap.size F wr h1 (fun i _ => by have := h3 i; omega) _ rfl hV).mono ?_
  rintro e w' ⟨rfl, g1, g2⟩
  exact ⟨rfl, g1, h4.trans g2.2.2⟩
theorem rnd_eq0 {r : Nat} (h0 : 0 < r) (h1 : r ≤ 9218868437227405312) : (FloatKind.f64.format.order r 0 == some .eq) = false := by
  rcases Nat.lt_or_ge r 9218868437227405312 with h | h
  · have hf : fieldW r < 2047 := by unfold fieldW; omega
    rw [f_eq hf (by decide +kernel), numW_zero]
    refine decide_eq_false ?_
    rw [numW_eq_zero, unitsW_zero]
    unfold fieldW fracW
    omega
  · obtain rfl : r = 9218868437227405312 := by omega
    decide +kernel
theorem neg_rnd {r : Nat} (h1 : r ≤ 9218868437227405312) : Op.negFloat .f64 r = 9223372036854775808 + r := by
  rw [neg_word (by omega)]
  unfold negW
  have s : sgnW r = false := by unfold sgnW; exact beq_eq_false_iff_ne.2 (by omega)
  rw [s, if_neg Bool.false_ne_true, Nat.add_comm]

set_option maxRecDepth 20000 in
set_option maxHeartbeats 16000000 in
theorem sumOf_any (a : Option Addr) (n c : Nat) (f : Nat → Nat) (w : World) (hF : FRow w a n f) (hf : ∀ j, f j < 18446744073709551616) (hn : n ≤ 300) :
    Calls Tryz.prog 6 #[.slice a n c] w fun e w' => e = .returned (.float .f64 (sumR f n)) ∧ Below w.heap.size w w' := by
  have HF := Lib.hid hF
  have Hf := Lib.hid hf
  have hmk := run_ints72 w
  have HS0 := Lib.hid (RefLo.start w f)
  have hsz := ints_size w
  have h9 := @run_callFunc_extern Tryz.prog 22 _ Extern.MathFloatBits.float64frombits Tryz.func22 (by kernel_rfl) (by kernel_rfl) (by kernel_rfl) (by kernel_rfl)
  have h8 := @run_callFunc_extern Tryz.prog 17 _ Extern.MathFloatBits.float64bits Tryz.func17 (by kernel_rfl) (by kernel_rfl) (by kernel_rfl) (by kernel_rfl)
  clear hF hf
  go_enter Tryz.func6, Tryz.ntmps6
  go_wp2_with fail
  generalize hW1 : (intsW w).alloc (.cells #[.slice (some ⟨w.heap.size, 0, none⟩) 72 72] 54) = w1
  rw [show exaW w = w1 from hW1] at HS0
  clear hmk hsz hW1
  go_loopw [3, 4, 5, 6, 8] (fun v3 v4 v5 v6 v8 wr => ∃ (k : Nat) (u d m mm : Bool), k ≤ n ∧ v8 = .int .i64 k ∧ v3 = .bool u ∧ v4 = .bool d ∧ v5 = .bool m ∧ v6 = .bool mm ∧ Hid (u = anyW isU f k ∧ d = anyW isD f k ∧ m = anyW isN f k ∧ mm = (decide (0 < n) && allM f k)) ∧ Hid (RefLo w wr f k)) (fun _ _ _ _ i _ => n - (intOf i).toNat)
  case atStart => exact ⟨0, false, false, false, _, Nat.zero_le _, rfl, rfl, rfl, rfl, rfl, Lib.hid ⟨rfl, rfl, rfl, by simp [allM]⟩, HS0⟩
  case round =>
    obtain ⟨k, u, d, m, mm, hk, rfl, rfl, rfl, rfl, rfl, HE, HL⟩ := hrel
    rcases Nat.lt_or_ge k n with hkn | hkn
    · obtain ⟨bx, off, rfl, hbx, hcx⟩ := HF.out.at hkn
      have hB0 : Below w.heap.size w wr := by obtain ⟨F, _, _, _, h4⟩ := HL.out; exact h4
      have hcr : wr.cell? ⟨bx, off + k, none⟩ = some (.float .f64 (f k)) := by rw [hB0.cell (p := ⟨bx, off + k, none⟩) hbx]; exact hcx
      obtain ⟨x, hx⟩ : ∃ x, f k = x := ⟨_, rfl⟩
      rw [hx] at hcr
      have HX := Lib.hid hx
      have hxb : x < 18446744073709551616 := by rw [← hx]; exact Hf.out k
      clear hcx hx HS0 hB0
      rcases kind_of x hxb with rfl | rfl | ⟨k1, k2⟩ | rfl | rfl | ⟨k1, k2⟩
      · have kf : fieldW 0 < 2047 := by decide +kernel
        have hxx : FloatKind.f64.format.order 0 0 = some .eq := by decide +kernel
        have hg : FloatKind.f64.format.order 0 0 = some .eq := by decide +kernel
        have hU : isU 0 = false := by decide +kernel
        have hD : isD 0 = false := by decide +kernel
        have hN : isN 0 = false := by decide +kernel
        have hM : (0 == 9223372036854775808) = false := by decide +kernel
        have HFi := Lib.hid (fun W => finite_any 0 W)
        have HK := Lib.hid (kinds_step (n := n) HX.out HE.out hU hD hN hM)
        have hd : decide (fieldW 0 < 2047) = true := decide_eq_true kf
        have HT : Hid (∀ q, Calls Tryz.prog 19 #[.pointer (some ⟨w.heap.size + 1, 0, none⟩), .float .f64 0] (wr.drewN q) fun en w' => en = .returned (.tuple #[]) ∧ RefLo w w' f (k + 1)) := Lib.hid (fun q => by
          have r := take_step (HL.out.drewN q) (by omega) (by rw [HX.out]; exact hxb) (by rw [HX.out]; exact kf)
          rw [HX.out] at r
          exact r)
        clear hU hD hN hM
        rw [hd] at HFi
        cases u <;> cases d <;> cases m <;> cases mm
        all_goals
          go_wp2_with fail
          refine (HFi.out _).mono ?_; rintro e w2 ⟨q, rfl, rfl⟩
          go_wp2_with fail
          refine (HT.out q).mono ?_; rintro e w3 ⟨rfl, h1⟩
          have HS3 := Lib.hid h1
          clear h1
          go_wp2_with fail
          all_goals exact ⟨⟨k + 1, _, _, _, _, by omega, rfl, rfl, rfl, rfl, rfl, Lib.hid (by simpa [none_ne] using HK.out), HS3⟩, by simp [intOf]; try omega⟩
      · have kf : fieldW 9223372036854775808 < 2047 := by decide +kernel
        have hxx : FloatKind.f64.format.order 9223372036854775808 9223372036854775808 = some .eq := by decide +kernel
        have hg : FloatKind.f64.format.order 9223372036854775808 0 = some .eq := by decide +kernel
        have hU : isU 9223372036854775808 = false := by decide +kernel
        have hD : isD 9223372036854775808 = false := by decide +kernel
        have hN : isN 9223372036854775808 = false := by decide +kernel
        have hM : (9223372036854775808 == 9223372036854775808) = true := by decide +kernel
        have HFi := Lib.hid (fun W => finite_any 9223372036854775808 W)
        have HK := Lib.hid (kinds_step (n := n) HX.out HE.out hU hD hN hM)
        have hd : decide (fieldW 9223372036854775808 < 2047) = true := decide_eq_true kf
        have HT : Hid (∀ q, Calls Tryz.prog 19 #[.pointer (some ⟨w.heap.size + 1, 0, none⟩), .float .f64 9223372036854775808] (wr.drewN q) fun en w' => en = .returned (.tuple #[]) ∧ RefLo w w' f (k + 1)) := Lib.hid (fun q => by
          have r := take_step (HL.out.drewN q) (by omega) (by rw [HX.out]; exact hxb) (by rw [HX.out]; exact kf)
          rw [HX.out] at r
          exact r)
        clear hU hD hN hM
        rw [hd] at HFi
        cases u <;> cases d <;> cases m <;> cases mm
        all_goals
          go_wp2_with fail
          refine (HFi.out _).mono ?_; rintro e w2 ⟨q, rfl, rfl⟩
          go_wp2_with fail
          refine (HT.out q).mono ?_; rintro e w3 ⟨rfl, h1⟩
          have HS3 := Lib.hid h1
          clear h1
          go_wp2_with fail
          all_goals exact ⟨⟨k + 1, _, _, _, _, by omega, rfl, rfl, rfl, rfl, rfl, Lib.hid (by simpa [none_ne] using HK.out), HS3⟩, by simp [intOf]; try omega⟩
      · have kf := k1
        have hxx : FloatKind.f64.format.order x x = some .eq := f_self (Or.inl kf)
        have hxz : ¬ ((x : Int) = 9223372036854775808) := by
          intro e
          have e' : x = 9223372036854775808 := by omega
          subst e'
          exact absurd (by decide +kernel) k2
        have hxb2 : ((x : Int) == 9223372036854775808) = false := beq_eq_false_iff_ne.2 hxz
        obtain ⟨og, hog⟩ : ∃ og, FloatKind.f64.format.order x 0 = og := ⟨_, rfl⟩
        have hU : isU x = false := beq_eq_false_iff_ne.2 (fun e => by subst e; exact absurd k1 (by decide +kernel))
        have hD : isD x = false := beq_eq_false_iff_ne.2 (fun e => by subst e; exact absurd k1 (by decide +kernel))
        have hN : isN x = false := decide_eq_false (fun e => by omega)
        have hM : (x == 9223372036854775808) = false := beq_eq_false_iff_ne.2 (fun e => by omega)
        have HFi := Lib.hid (fun W => finite_any x W)
        have HK := Lib.hid (kinds_step (n := n) HX.out HE.out hU hD hN hM)
        have hd : decide (fieldW x < 2047) = true := decide_eq_true kf
        have HT : Hid (∀ q, Calls Tryz.prog 19 #[.pointer (some ⟨w.heap.size + 1, 0, none⟩), .float .f64 x] (wr.drewN q) fun en w' => en = .returned (.tuple #[]) ∧ RefLo w w' f (k + 1)) := Lib.hid (fun q => by
          have r := take_step (HL.out.drewN q) (by omega) (by rw [HX.out]; exact hxb) (by rw [HX.out]; exact kf)
          rw [HX.out] at r
          exact r)
        clear hU hD hN hM
        rw [hd] at HFi
        cases u <;> cases d <;> cases m <;> cases mm
        all_goals
          go_wp2_with fail
          refine (HFi.out _).mono ?_; rintro e w2 ⟨q, rfl, rfl⟩
          go_wp2_with fail
          refine (HT.out q).mono ?_; rintro e w3 ⟨rfl, h1⟩
          have HS3 := Lib.hid h1
          clear h1
          go_wp2_with fail
          all_goals exact ⟨⟨k + 1, _, _, _, _, by omega, rfl, rfl, rfl, rfl, rfl, Lib.hid (by simpa [none_ne] using HK.out), HS3⟩, by simp [intOf]; try omega⟩
      · have kf : ¬ (fieldW 9218868437227405312 < 2047) := by decide +kernel
        have hxx : FloatKind.f64.format.order 9218868437227405312 9218868437227405312 = some .eq := by decide +kernel
        have hg : FloatKind.f64.format.order 9218868437227405312 0 = some .gt := by decide +kernel
        have hU : isU 9218868437227405312 = true := by decide +kernel
        have hD : isD 9218868437227405312 = false := by decide +kernel
        have hN : isN 9218868437227405312 = false := by decide +kernel
        have hM : (9218868437227405312 == 9223372036854775808) = false := by decide +kernel
        have HFi := Lib.hid (fun W => finite_any 9218868437227405312 W)
        have HK := Lib.hid (kinds_step (n := n) HX.out HE.out hU hD hN hM)
        have hd : decide (fieldW 9218868437227405312 < 2047) = false := decide_eq_false kf
        have HT : Hid (∀ q, RefLo w (wr.drewN q) f (k + 1)) := Lib.hid (fun q => (HL.out.drewN q).skip (by rw [HX.out]; exact kf))
        clear hU hD hN hM
        rw [hd] at HFi
        cases u <;> cases d <;> cases m <;> cases mm
        all_goals
          go_wp2_with fail
          refine (HFi.out _).mono ?_; rintro e w2 ⟨q, rfl, rfl⟩
          go_wp2_with fail
          have HS3 := Lib.hid (HT.out q)
          all_goals exact ⟨⟨k + 1, _, _, _, _, by omega, rfl, rfl, rfl, rfl, rfl, Lib.hid (by simpa [none_ne] using HK.out), HS3⟩, by simp [intOf]; try omega⟩
      · have kf : ¬ (fieldW 18442240474082181120 < 2047) := by decide +kernel
        have hxx : FloatKind.f64.format.order 18442240474082181120 18442240474082181120 = some .eq := by decide +kernel
        have hg : FloatKind.f64.format.order 18442240474082181120 0 = some .lt := by decide +kernel
        have hU : isU 18442240474082181120 = false := by decide +kernel
        have hD : isD 18442240474082181120 = true := by decide +kernel
        have hN : isN 18442240474082181120 = false := by decide +kernel
        have hM : (18442240474082181120 == 9223372036854775808) = false := by decide +kernel
        have HFi := Lib.hid (fun W => finite_any 18442240474082181120 W)
        have HK := Lib.hid (kinds_step (n := n) HX.out HE.out hU hD hN hM)
        have hd : decide (fieldW 18442240474082181120 < 2047) = false := decide_eq_false kf
        have HT : Hid (∀ q, RefLo w (wr.drewN q) f (k + 1)) := Lib.hid (fun q => (HL.out.drewN q).skip (by rw [HX.out]; exact kf))
        clear hU hD hN hM
        rw [hd] at HFi
        cases u <;> cases d <;> cases m <;> cases mm
        all_goals
          go_wp2_with fail
          refine (HFi.out _).mono ?_; rintro e w2 ⟨q, rfl, rfl⟩
          go_wp2_with fail
          have HS3 := Lib.hid (HT.out q)
          all_goals exact ⟨⟨k + 1, _, _, _, _, by omega, rfl, rfl, rfl, rfl, rfl, Lib.hid (by simpa [none_ne] using HK.out), HS3⟩, by simp [intOf]; try omega⟩
      · have kf : ¬ (fieldW x < 2047) := by omega
        have hz : FloatKind.f64.format.order x 0 = none := f_nan k1 k2
        have hxx : FloatKind.f64.format.order x x = none := f_nan k1 k2
        have hnn : ((none : Option Ordering) != some Ordering.eq) = true := rfl
        have hxz : ¬ ((x : Int) = 9223372036854775808) := by
          intro e
          have e' : x = 9223372036854775808 := by omega
          subst e'
          exact absurd (by decide +kernel) k2
        have hxb2 : ((x : Int) == 9223372036854775808) = false := beq_eq_false_iff_ne.2 hxz
        have hU : isU x = false := beq_eq_false_iff_ne.2 (fun e => by subst e; exact absurd (by decide +kernel) k2)
        have hD : isD x = false := beq_eq_false_iff_ne.2 (fun e => by subst e; exact absurd (by decide +kernel) k2)
        have hN : isN x = true := decide_eq_true ⟨k1, k2⟩
        have hM : (x == 9223372036854775808) = false := beq_eq_false_iff_ne.2 (fun e => by omega)
        have HFi := Lib.hid (fun W => finite_any x W)
        have HK := Lib.hid (kinds_step (n := n) HX.out HE.out hU hD hN hM)
        have hd : decide (fieldW x < 2047) = false := decide_eq_false kf
        have HT : Hid (∀ q, RefLo w (wr.drewN q) f (k + 1)) := Lib.hid (fun q => (HL.out.drewN q).skip (by rw [HX.out]; exact kf))
        clear hU hD hN hM
        rw [hd] at HFi
        cases u <;> cases d <;> cases m <;> cases mm
        all_goals
          go_wp2_with fail
          refine (HFi.out _).mono ?_; rintro e w2 ⟨q, rfl, rfl⟩
          go_wp2_with fail
          have HS3 := Lib.hid (HT.out q)
          all_goals exact ⟨⟨k + 1, _, _, _, _, by omega, rfl, rfl, rfl, rfl, rfl, Lib.hid (by simpa [none_ne] using HK.out), HS3⟩, by simp [intOf]; try omega⟩
    · obtain rfl : n = k := by omega
      have HR0 : Hid (sumR f n = if m || (u && d) then 9221120237041090561 else if u then 9218868437227405312 else if d then 18442240474082181120 else if totW f n ≠ 0 then sumW (totW f n) else if mm then 9223372036854775808 else 0) := Lib.hid (by
        obtain ⟨a1, a2, a3, a4⟩ := HE.out
        unfold sumR
        rw [← a1, ← a2, ← a3, ← a4])
      have HNaN := Lib.hid nan_any
      have HUp := Lib.hid inf_pos
      have HDn := Lib.hid inf_neg
      have HB0 : Hid (Below w.heap.size w wr) := Lib.hid (by obtain ⟨F, _, _, _, h4⟩ := HL.out; exact h4)
      have HLe := Lib.hid (ref_end HL.out hn)
      clear HE HS0
      cases m
      · cases u
        · cases d
          · by_cases hT : totW f n = 0
            · have HR : Hid (sumR f n = if mm then 9223372036854775808 else 0) := Lib.hid (by rw [HR0.out]; simp [hT])
              rw [hT] at HLe
              clear hT HR0
              cases mm
              all_goals
                go_wp2_with fail
                refine HLe.out.mono ?_; rintro e w2 ⟨rfl, hlv, hB2⟩
                have HRn : Hid (Calls Tryz.prog 21 #[.pointer (some ⟨w.heap.size + 1, 0, none⟩)] w2 fun en w' => en = .returned (.float .f64 0) ∧ w' = w2) := Lib.hid (by
                  have r := rounded_any _ _ _ w2 hlv
                  rw [show Int.natAbs 0 = 0 from rfl, rndW_zero] at r
                  exact r)
                have HB2 := Lib.hid hB2
                clear hlv hB2
                go_wp2_with fail
                refine HRn.out.mono ?_; rintro e w3 ⟨rfl, rfl⟩
                go_wp2
                go_ret
                rw [HR.out]
                exact ⟨rfl, HB2.out⟩
            · have hR1 : sumR f n = sumW (totW f n) := by rw [HR0.out]; simp [hT]
              have h0 := rndW_pos (totW f n).natAbs (by omega)
              have h1 := rndW_le (totW f n).natAbs
              unfold sumW at hR1
              have HRn : Hid (∀ w2, Lev w2 (w.heap.size + 1) w.heap.size (totW f n).natAbs → Calls Tryz.prog 21 #[.pointer (some ⟨w.heap.size + 1, 0, none⟩)] w2 fun en w' => en = .returned (.float .f64 (rndW (totW f n).natAbs)) ∧ w' = w2) := Lib.hid (fun w2 h => rounded_any _ _ _ w2 h)
              obtain ⟨r, hr⟩ : ∃ r, rndW (totW f n).natAbs = r := ⟨_, rfl⟩
              rw [hr] at h0 h1 HRn hR1
              have ho := rnd_eq0 h0 h1
              have hng := neg_rnd h1
              rcases Int.lt_or_le (totW f n) 0 with hs | hs
              · rw [if_pos hs] at HLe
                rw [decide_eq_true hs] at hR1
                have HR : Hid (sumR f n = 9223372036854775808 + r) := Lib.hid hR1
                clear hs hT hR1 hr h0 h1 HR0
                go_wp2_with fail
                refine HLe.out.mono ?_; rintro e w2 ⟨rfl, hlv, hB2⟩
                have HRm := Lib.hid (HRn.out w2 hlv)
                have HB2 := Lib.hid hB2
                clear hlv hB2 HRn
                go_wp2_with fail
                refine HRm.out.mono ?_; rintro e w3 ⟨rfl, rfl⟩
                go_wp2
                go_ret
                rw [HR.out]
                exact ⟨rfl, HB2.out⟩
              · rw [if_neg (by omega)] at HLe
                rw [decide_eq_false (by omega)] at hR1
                have HR : Hid (sumR f n = r) := Lib.hid (hR1.trans (Nat.zero_add r))
                clear hs hT hR1 hr h0 h1 HR0 hng
                go_wp2_with fail
                refine HLe.out.mono ?_; rintro e w2 ⟨rfl, hlv, hB2⟩
                have HRm := Lib.hid (HRn.out w2 hlv)
                have HB2 := Lib.hid hB2
                clear hlv hB2 HRn
                go_wp2_with fail
                refine HRm.out.mono ?_; rintro e w3 ⟨rfl, rfl⟩
                go_wp2
                go_ret
                rw [HR.out]
                exact ⟨rfl, HB2.out⟩
          · go_wp2_with fail
            refine (HDn.out _).mono ?_; rintro e w2 ⟨rfl, rfl⟩
            go_wp2
            go_ret
            rw [HR0.out]
            exact ⟨rfl, HB0.out⟩
        · cases d
          · go_wp2_with fail
            refine (HUp.out _).mono ?_; rintro e w2 ⟨rfl, rfl⟩
            go_wp2
            go_ret
            rw [HR0.out]
            exact ⟨rfl, HB0.out⟩
          · go_wp2_with fail
            refine (HNaN.out _).mono ?_; rintro e w2 ⟨rfl, rfl⟩
            go_wp2
            go_ret
            rw [HR0.out]
            exact ⟨rfl, HB0.out⟩
      · go_wp2_with fail
        refine (HNaN.out _).mono ?_; rintro e w2 ⟨rfl, rfl⟩
        go_wp2
        go_ret
        rw [HR0.out]
        exact ⟨rfl, HB0.out⟩
end Go.Proofs.YtmkdcnemocdefaaGreatFmt
