/- bits.Sum. -/
import Derived.Test.YtmkdcnemocdefaaGreatFmtAcc
import Derived.Test.YtmkdcnemocdefaaGreatFmtFrow
namespace Go.Proofs.YtmkdcnemocdefaaGreatFmt
open Go.RowKit

/-- A number laid as SetFloat64 lays it, at a new block. -/
theorem num_new (x : Nat) (hx : x < 18446744073709551616) (hf : fieldW x < 2047) (w : World) (W : World) (hW : W = w.alloc (.cells #[.int .u32 0, .int .u8 0, .int .i8 0, .int .u8 0, .bool false, .slice none 0 0, .int .i32 0] 36)) :
    Calls Tryz.prog 10 #[.pointer (some ⟨w.heap.size, 0, none⟩), .float .f64 x] W fun e w' => e = .returned (.pointer (some ⟨w.heap.size, 0, none⟩)) ∧ NumSt w' w.heap.size x w.heap.size ∧ (∀ i, i < w.heap.size → w'.heap[i]? = w.heap[i]?) ∧ Below w.heap.size w w' ∧ w.heap.size ≤ w'.heap.size := by
  have hF : Flt W w.heap.size 0 0 0 false (.slice none 0 0) 0 := by rw [hW]; exact heap_new w _
  have hs : W.heap.size = w.heap.size + 1 := by rw [hW]; simp
  have hB : Below w.heap.size w W := by rw [hW]; exact (Below.refl _ w).alloc (Nat.le_refl _) _
  have hU : ∀ i, i < w.heap.size → W.heap[i]? = w.heap[i]? := fun i hi => by
    rw [hW]
    show (w.heap.push _)[i]? = _
    rw [Array.getElem?_push_lt hi, Array.getElem?_eq_getElem hi]
  by_cases h0 : unitsW x = 0
  · refine (setFloat_zero w.heap.size x hx hf h0 W hF).mono ?_
    rintro e w' ⟨rfl, h1, h2⟩
    exact ⟨rfl, ⟨Nat.le_refl _, Or.inl ⟨h0, h1⟩⟩, fun i hi => (h2.1 i (by omega) (by omega)).trans (hU i hi), hB.trans (h2.2.2 _ (Nat.le_refl _) (by omega)), by have := h2.2.1; omega⟩
  · refine (setFloat_fin w.heap.size x hx hf h0 W hF).mono ?_
    rintro e w' ⟨rfl, gy, h1, h3, h4, h2⟩
    exact ⟨rfl, ⟨Nat.le_refl _, Or.inr ⟨h0, gy, h1, h3, by omega⟩⟩, fun i hi => (h2.1 i (by omega) (by omega)).trans (hU i hi), hB.trans (h2.2.2 _ (Nat.le_refl _) (by omega)), by have := h2.2.1; omega⟩
theorem isInf_up (x : Nat) (hf : fieldW x < 2047) (w : World) :
    Calls Tryz.prog 8 #[.float .f64 x, .int .i64 1] w fun e w' => e = .returned (.bool false) ∧ w' = w := by
  have g := f_gt (b := x) (c := 9218868437227405311) hf (by decide +kernel)
  rw [decide_eq_false (num_max hf)] at g
  have r := isInf_p x w
  rw [g] at r
  exact r
theorem isInf_down (x : Nat) (hx : x < 18446744073709551616) (hf : fieldW x < 2047) (w : World) :
    Calls Tryz.prog 8 #[.float .f64 x, .int .i64 (-1)] w fun e w' => e = .returned (.bool false) ∧ w' = w := by
  have p := negW_parts hx
  have hf' : fieldW (negW x) < 2047 := by rw [p.2.1]; exact hf
  have g := f_gt (b := negW x) (c := 9218868437227405311) hf' (by decide +kernel)
  rw [decide_eq_false (num_max hf')] at g
  have r := isInf_n x hx w
  rw [g] at r
  exact r
theorem isInf_U (w : World) :
    Calls Tryz.prog 8 #[.float .f64 9218868437227405312, .int .i64 1] w fun e w' => e = .returned (.bool true) ∧ w' = w := by
  have r := isInf_p 9218868437227405312 w
  rw [show (FloatKind.f64.format.order 9218868437227405312 9218868437227405311 == some .gt) = true by decide +kernel] at r
  exact r
theorem isInf_D1 (w : World) :
    Calls Tryz.prog 8 #[.float .f64 18442240474082181120, .int .i64 1] w fun e w' => e = .returned (.bool false) ∧ w' = w := by
  have r := isInf_p 18442240474082181120 w
  rw [show (FloatKind.f64.format.order 18442240474082181120 9218868437227405311 == some .gt) = false by decide +kernel] at r
  exact r
theorem isInf_D2 (w : World) :
    Calls Tryz.prog 8 #[.float .f64 18442240474082181120, .int .i64 (-1)] w fun e w' => e = .returned (.bool true) ∧ w' = w := by
  have r := isInf_n 18442240474082181120 (by decide) w
  rw [show (FloatKind.f64.format.order (negW 18442240474082181120) 9218868437227405311 == some .gt) = true by decide +kernel] at r
  exact r
theorem kinds_step {f : Nat → Nat} {k n X : Nat} {u d m mm bu bd bm bM : Bool} (hX : f k = X) (h : u = anyW isU f k ∧ d = anyW isD f k ∧ m = anyW isN f k ∧ mm = (decide (0 < n) && allM f k)) (hU : isU X = bu) (hD : isD X = bd) (hN : isN X = bm) (hM : (X == 9223372036854775808) = bM) :
    (u || bu) = anyW isU f (k + 1) ∧ (d || bd) = anyW isD f (k + 1) ∧ (m || bm) = anyW isN f (k + 1) ∧ (mm && bM) = (decide (0 < n) && allM f (k + 1)) := by
  obtain ⟨a1, a2, a3, a4⟩ := h
  rw [anyW, anyW, anyW, allM, hX, hU, hD, hN, hM, ← a1, ← a2, ← a3, a4, Bool.and_assoc]
  exact ⟨rfl, rfl, rfl, rfl⟩
/-- What the loop holds at its k-th turn. -/
def SumLo (w wr : World) (b : Nat) (f : Nat → Nat) (k : Nat) : Prop := SumSt 4000 w.heap.size wr b (totW f k) ∧ Below w.heap.size w wr

set_option maxRecDepth 20000 in
set_option maxHeartbeats 8000000 in
theorem sum_loop (a : Option Addr) (n c : Nat) (f : Nat → Nat) (w : World) (hF : FRow w a n f) (hf : ∀ j, f j < 18446744073709551616) (hn : n ≤ 300) :
    Calls Tryz.prog 4 #[.slice a n c] w fun e w' => e = .returned (.float .f64 (sumR f n)) ∧ Below w.heap.size w w' := by
  have HF := Lib.hid hF
  have Hf := Lib.hid hf
  have HP : Hid (∀ W : World, Flt W w.heap.size 0 0 0 false (.slice none 0 0) 0 → Calls Tryz.prog 7 #[.pointer (some ⟨w.heap.size, 0, none⟩), .int .u64 2400] W fun e w' => e = .returned (.pointer (some ⟨w.heap.size, 0, none⟩)) ∧ w' = (W.setCell ⟨w.heap.size, 2, none⟩ (.int .i8 0)).setCell ⟨w.heap.size, 0, none⟩ (.int .u32 2400)) := Lib.hid (fun W h => setPrec_new _ W h)
  have h0 : Flt (w.alloc (.cells #[.int .u32 0, .int .u8 0, .int .i8 0, .int .u8 0, .bool false, .slice none 0 0, .int .i32 0] 36)) w.heap.size 0 0 0 false (.slice none 0 0) 0 := heap_new w _
  have H0 := Lib.hid h0
  have HS0 : Hid (SumLo w (((w.alloc (.cells #[.int .u32 0, .int .u8 0, .int .i8 0, .int .u8 0, .bool false, .slice none 0 0, .int .i32 0] 36)).setCell ⟨w.heap.size, 2, none⟩ (.int .i8 0)).setCell ⟨w.heap.size, 0, none⟩ (.int .u32 2400)) w.heap.size f 0) := Lib.hid
    ⟨⟨Nat.le_refl _, Or.inr ⟨rfl, 0, false, .slice none 0 0, 0, (h0.s2 0).s0 2400, Or.inl rfl⟩⟩, (((Below.refl _ w).alloc (Nat.le_refl _) _).setCell (Nat.le_refl _) _).setCell (Nat.le_refl _) _⟩
  clear hF hf h0
  go_enter Tryz.func4, Tryz.ntmps4
  go_wp2_with fail
  refine (HP.out _ H0.out).mono ?_; rintro e w1 ⟨rfl, rfl⟩
  clear HP H0
  generalize hW1 : ((w.alloc (.cells #[.int .u32 0, .int .u8 0, .int .i8 0, .int .u8 0, .bool false, .slice none 0 0, .int .i32 0] 36)).setCell ⟨w.heap.size, 2, none⟩ (.int .i8 0)).setCell ⟨w.heap.size, 0, none⟩ (.int .u32 2400) = w1 at *
  clear hW1
  go_wp2_with fail
  go_loopw [3, 4, 5, 6, 19] (fun v3 v4 v5 v6 v19 wr => ∃ (k : Nat) (u d m mm : Bool), k ≤ n ∧ v19 = .int .i64 k ∧ v3 = .bool u ∧ v4 = .bool d ∧ v5 = .bool m ∧ v6 = .bool mm ∧ Hid (u = anyW isU f k ∧ d = anyW isD f k ∧ m = anyW isN f k ∧ mm = (decide (0 < n) && allM f k)) ∧ Hid (SumLo w wr w.heap.size f k)) (fun _ _ _ _ i _ => n - (intOf i).toNat)
  case atStart => exact ⟨0, false, false, false, _, Nat.zero_le _, rfl, rfl, rfl, rfl, rfl, Lib.hid ⟨rfl, rfl, rfl, by simp [allM]⟩, HS0⟩
  case round =>
    obtain ⟨k, u, d, m, mm, hk, rfl, rfl, rfl, rfl, rfl, HE, HL⟩ := hrel
    rcases Nat.lt_or_ge k n with hkn | hkn
    · obtain ⟨bx, off, rfl, hbx, hcx⟩ := HF.out.at hkn
      have hcr : wr.cell? ⟨bx, off + k, none⟩ = some (.float .f64 (f k)) := by rw [HL.out.2.cell (p := ⟨bx, off + k, none⟩) hbx]; exact hcx
      obtain ⟨x, hx⟩ : ∃ x, f k = x := ⟨_, rfl⟩
      rw [hx] at hcr
      have HX := Lib.hid hx
      have hxb : x < 18446744073709551616 := by rw [← hx]; exact Hf.out k
      clear hcx hx HS0
      rcases kind_of x hxb with rfl | rfl | ⟨k1, k2⟩ | rfl | rfl | ⟨k1, k2⟩
      · have kf : fieldW 0 < 2047 := by decide +kernel
        have HSv : sgnW 0 = false := by decide +kernel
        have hU : isU 0 = false := by decide +kernel
        have hD : isD 0 = false := by decide +kernel
        have hN : isN 0 = false := by decide +kernel
        have hM : (0 == 9223372036854775808) = false := by decide +kernel
        have HA : Hid (∀ W, NumSt W wr.heap.size 0 wr.heap.size → (∀ i, i < wr.heap.size → W.heap[i]? = wr.heap[i]?) → wr.heap.size ≤ W.heap.size → Calls Tryz.prog 9 #[.pointer (some ⟨w.heap.size, 0, none⟩), .pointer (some ⟨w.heap.size, 0, none⟩), .pointer (some ⟨wr.heap.size, 0, none⟩)] W fun e w' => e = .returned (.pointer (some ⟨w.heap.size, 0, none⟩)) ∧ SumSt 4000 w.heap.size w' w.heap.size (totW f k + numW 0) ∧ Below w.heap.size W w') := Lib.hid (fun W h1 h2 h3 =>
          add_step 4000 2200 w.heap.size wr.heap.size w.heap.size wr.heap.size 0 (totW f k) wr W (by decide) (by decide) HL.out.1 h2 (Nat.le_refl _) h1 (Nat.le_trans HL.out.2.size h3) kf (by have := tot_step f k 2200 (by omega) (by rw [HX.out]; exact kf) (by decide); rw [HX.out] at this; exact this))
        have HNu := Lib.hid (num_new 0 hxb kf wr _ rfl)
        have HT : Hid (totW f (k + 1) = totW f k + numW 0) := Lib.hid (by rw [totW, HX.out, if_pos kf])
        have hxx : FloatKind.f64.format.order 0 0 = some .eq := f_self (Or.inl kf)
        have HI1 := Lib.hid (fun W => isInf_up 0 kf W)
        have HI2 := Lib.hid (fun W => isInf_down 0 hxb kf W)
        have HSg := Lib.hid (fun W => signbit_any 0 hxb W)
        have HK := Lib.hid (kinds_step (n := n) HX.out HE.out hU hD hN hM)
        clear hU hD hN hM
        cases mm
        all_goals
          go_wp2_with fail
          refine (HI1.out _).mono ?_; rintro e w2 ⟨rfl, rfl⟩
          go_wp2_with fail
          refine (HI2.out _).mono ?_; rintro e w2 ⟨rfl, rfl⟩
          go_wp2_with fail
          refine HNu.out.mono ?_; rintro e w2 ⟨rfl, h1, h2, h3, h4⟩
          have HB2 := Lib.hid (HL.out.2.trans (h3.mono HL.out.2.size))
          have HAc := Lib.hid (HA.out _ h1 h2 h4)
          clear h1 h2 h3 h4 hcr
          go_wp2_with fail
          refine HAc.out.mono ?_; rintro e w3 ⟨rfl, h1, h2⟩
          have HS3 : Hid (SumLo w w3 w.heap.size f (k + 1)) := Lib.hid ⟨by rw [HT.out]; exact h1, HB2.out.trans h2⟩
          clear h1 h2
          go_wp2_with fail
          try (refine (HSg.out _).mono ?_; rintro e w4 ⟨rfl, rfl⟩; go_wp2_with fail)
          exact ⟨⟨k + 1, u, d, m, _, by omega, rfl, rfl, rfl, rfl, rfl, Lib.hid (by simpa [HSv] using HK.out), HS3⟩, by simp [intOf]; omega⟩
      · have kf : fieldW 9223372036854775808 < 2047 := by decide +kernel
        have HSv : sgnW 9223372036854775808 = true := by decide +kernel
        have hU : isU 9223372036854775808 = false := by decide +kernel
        have hD : isD 9223372036854775808 = false := by decide +kernel
        have hN : isN 9223372036854775808 = false := by decide +kernel
        have hM : (9223372036854775808 == 9223372036854775808) = true := by decide +kernel
        have HA : Hid (∀ W, NumSt W wr.heap.size 9223372036854775808 wr.heap.size → (∀ i, i < wr.heap.size → W.heap[i]? = wr.heap[i]?) → wr.heap.size ≤ W.heap.size → Calls Tryz.prog 9 #[.pointer (some ⟨w.heap.size, 0, none⟩), .pointer (some ⟨w.heap.size, 0, none⟩), .pointer (some ⟨wr.heap.size, 0, none⟩)] W fun e w' => e = .returned (.pointer (some ⟨w.heap.size, 0, none⟩)) ∧ SumSt 4000 w.heap.size w' w.heap.size (totW f k + numW 9223372036854775808) ∧ Below w.heap.size W w') := Lib.hid (fun W h1 h2 h3 =>
          add_step 4000 2200 w.heap.size wr.heap.size w.heap.size wr.heap.size 9223372036854775808 (totW f k) wr W (by decide) (by decide) HL.out.1 h2 (Nat.le_refl _) h1 (Nat.le_trans HL.out.2.size h3) kf (by have := tot_step f k 2200 (by omega) (by rw [HX.out]; exact kf) (by decide); rw [HX.out] at this; exact this))
        have HNu := Lib.hid (num_new 9223372036854775808 hxb kf wr _ rfl)
        have HT : Hid (totW f (k + 1) = totW f k + numW 9223372036854775808) := Lib.hid (by rw [totW, HX.out, if_pos kf])
        have hxx : FloatKind.f64.format.order 9223372036854775808 9223372036854775808 = some .eq := f_self (Or.inl kf)
        have HI1 := Lib.hid (fun W => isInf_up 9223372036854775808 kf W)
        have HI2 := Lib.hid (fun W => isInf_down 9223372036854775808 hxb kf W)
        have HSg := Lib.hid (fun W => signbit_any 9223372036854775808 hxb W)
        have HK := Lib.hid (kinds_step (n := n) HX.out HE.out hU hD hN hM)
        clear hU hD hN hM
        cases mm
        all_goals
          go_wp2_with fail
          refine (HI1.out _).mono ?_; rintro e w2 ⟨rfl, rfl⟩
          go_wp2_with fail
          refine (HI2.out _).mono ?_; rintro e w2 ⟨rfl, rfl⟩
          go_wp2_with fail
          refine HNu.out.mono ?_; rintro e w2 ⟨rfl, h1, h2, h3, h4⟩
          have HB2 := Lib.hid (HL.out.2.trans (h3.mono HL.out.2.size))
          have HAc := Lib.hid (HA.out _ h1 h2 h4)
          clear h1 h2 h3 h4 hcr
          go_wp2_with fail
          refine HAc.out.mono ?_; rintro e w3 ⟨rfl, h1, h2⟩
          have HS3 : Hid (SumLo w w3 w.heap.size f (k + 1)) := Lib.hid ⟨by rw [HT.out]; exact h1, HB2.out.trans h2⟩
          clear h1 h2
          go_wp2_with fail
          try (refine (HSg.out _).mono ?_; rintro e w4 ⟨rfl, rfl⟩; go_wp2_with fail)
          exact ⟨⟨k + 1, u, d, m, _, by omega, rfl, rfl, rfl, rfl, rfl, Lib.hid (by simpa [HSv] using HK.out), HS3⟩, by simp [intOf]; omega⟩
      · have kf := k1
        have HSv : true = true := rfl
        have hz := f_eq (b := x) (c := 0) kf (by decide +kernel)
        rw [numW_zero, decide_eq_false (by rw [numW_eq_zero]; exact k2)] at hz
        have hU : isU x = false := beq_eq_false_iff_ne.2 (fun e => by subst e; exact absurd k1 (by decide +kernel))
        have hD : isD x = false := beq_eq_false_iff_ne.2 (fun e => by subst e; exact absurd k1 (by decide +kernel))
        have hN : isN x = false := decide_eq_false (fun e => by omega)
        have hM : (x == 9223372036854775808) = false := beq_eq_false_iff_ne.2 (fun e => by subst e; exact absurd (by decide +kernel) k2)
        have HA : Hid (∀ W, NumSt W wr.heap.size x wr.heap.size → (∀ i, i < wr.heap.size → W.heap[i]? = wr.heap[i]?) → wr.heap.size ≤ W.heap.size → Calls Tryz.prog 9 #[.pointer (some ⟨w.heap.size, 0, none⟩), .pointer (some ⟨w.heap.size, 0, none⟩), .pointer (some ⟨wr.heap.size, 0, none⟩)] W fun e w' => e = .returned (.pointer (some ⟨w.heap.size, 0, none⟩)) ∧ SumSt 4000 w.heap.size w' w.heap.size (totW f k + numW x) ∧ Below w.heap.size W w') := Lib.hid (fun W h1 h2 h3 =>
          add_step 4000 2200 w.heap.size wr.heap.size w.heap.size wr.heap.size x (totW f k) wr W (by decide) (by decide) HL.out.1 h2 (Nat.le_refl _) h1 (Nat.le_trans HL.out.2.size h3) kf (by have := tot_step f k 2200 (by omega) (by rw [HX.out]; exact kf) (by decide); rw [HX.out] at this; exact this))
        have HNu := Lib.hid (num_new x hxb kf wr _ rfl)
        have HT : Hid (totW f (k + 1) = totW f k + numW x) := Lib.hid (by rw [totW, HX.out, if_pos kf])
        have hxx : FloatKind.f64.format.order x x = some .eq := f_self (Or.inl kf)
        have HI1 := Lib.hid (fun W => isInf_up x kf W)
        have HI2 := Lib.hid (fun W => isInf_down x hxb kf W)
        have HSg := Lib.hid (fun W => signbit_any x hxb W)
        have HK := Lib.hid (kinds_step (n := n) HX.out HE.out hU hD hN hM)
        clear hU hD hN hM
        cases mm
        all_goals
          go_wp2_with fail
          refine (HI1.out _).mono ?_; rintro e w2 ⟨rfl, rfl⟩
          go_wp2_with fail
          refine (HI2.out _).mono ?_; rintro e w2 ⟨rfl, rfl⟩
          go_wp2_with fail
          refine HNu.out.mono ?_; rintro e w2 ⟨rfl, h1, h2, h3, h4⟩
          have HB2 := Lib.hid (HL.out.2.trans (h3.mono HL.out.2.size))
          have HAc := Lib.hid (HA.out _ h1 h2 h4)
          clear h1 h2 h3 h4 hcr
          go_wp2_with fail
          refine HAc.out.mono ?_; rintro e w3 ⟨rfl, h1, h2⟩
          have HS3 : Hid (SumLo w w3 w.heap.size f (k + 1)) := Lib.hid ⟨by rw [HT.out]; exact h1, HB2.out.trans h2⟩
          clear h1 h2
          go_wp2_with fail
          try (refine (HSg.out _).mono ?_; rintro e w4 ⟨rfl, rfl⟩; go_wp2_with fail)
          exact ⟨⟨k + 1, u, d, m, _, by omega, rfl, rfl, rfl, rfl, rfl, Lib.hid (by simpa [HSv] using HK.out), HS3⟩, by simp [intOf]; omega⟩
      · have kf : ¬ (fieldW 9218868437227405312 < 2047) := by decide +kernel
        have hz : (FloatKind.f64.format.order 9218868437227405312 0 == some .eq) = false := by decide +kernel
        have hxx : FloatKind.f64.format.order 9218868437227405312 9218868437227405312 = some .eq := by decide +kernel
        have HI1 := Lib.hid isInf_U
        have hU : isU 9218868437227405312 = true := by decide +kernel
        have hD : isD 9218868437227405312 = false := by decide +kernel
        have hN : isN 9218868437227405312 = false := by decide +kernel
        have hM : (9218868437227405312 == 9223372036854775808) = false := by decide +kernel
        have HS3 : Hid (SumLo w wr w.heap.size f (k + 1)) := Lib.hid ⟨by rw [totW, HX.out, if_neg kf, Int.add_zero]; exact HL.out.1, HL.out.2⟩
        have HK := Lib.hid (kinds_step (n := n) HX.out HE.out hU hD hN hM)
        clear hU hD hN hM
        cases mm
        all_goals
          go_wp2_with fail
          refine (HI1.out _).mono ?_; rintro e w2 ⟨rfl, rfl⟩
          go_wp2_with fail
          exact ⟨⟨k + 1, true, d, m, _, by omega, rfl, rfl, rfl, rfl, rfl, Lib.hid (by simpa using HK.out), HS3⟩, by simp [intOf]; omega⟩
      · have kf : ¬ (fieldW 18442240474082181120 < 2047) := by decide +kernel
        have hz : (FloatKind.f64.format.order 18442240474082181120 0 == some .eq) = false := by decide +kernel
        have hxx : FloatKind.f64.format.order 18442240474082181120 18442240474082181120 = some .eq := by decide +kernel
        have HI1 := Lib.hid isInf_D1
        have HI2 := Lib.hid isInf_D2
        have hU : isU 18442240474082181120 = false := by decide +kernel
        have hD : isD 18442240474082181120 = true := by decide +kernel
        have hN : isN 18442240474082181120 = false := by decide +kernel
        have hM : (18442240474082181120 == 9223372036854775808) = false := by decide +kernel
        have HS3 : Hid (SumLo w wr w.heap.size f (k + 1)) := Lib.hid ⟨by rw [totW, HX.out, if_neg kf, Int.add_zero]; exact HL.out.1, HL.out.2⟩
        have HK := Lib.hid (kinds_step (n := n) HX.out HE.out hU hD hN hM)
        clear hU hD hN hM
        cases mm
        all_goals
          go_wp2_with fail
          refine (HI1.out _).mono ?_; rintro e w2 ⟨rfl, rfl⟩
          go_wp2_with fail
          refine (HI2.out _).mono ?_; rintro e w2 ⟨rfl, rfl⟩
          go_wp2_with fail
          exact ⟨⟨k + 1, u, true, m, _, by omega, rfl, rfl, rfl, rfl, rfl, Lib.hid (by simpa using HK.out), HS3⟩, by simp [intOf]; omega⟩
      · have kf : ¬ (fieldW x < 2047) := by omega
        have hz : FloatKind.f64.format.order x 0 = none := f_nan k1 k2
        have hxx : FloatKind.f64.format.order x x = none := f_nan k1 k2
        have hU : isU x = false := beq_eq_false_iff_ne.2 (fun e => by subst e; exact absurd (by decide +kernel) k2)
        have hD : isD x = false := beq_eq_false_iff_ne.2 (fun e => by subst e; exact absurd (by decide +kernel) k2)
        have hN : isN x = true := decide_eq_true ⟨k1, k2⟩
        have hM : (x == 9223372036854775808) = false := beq_eq_false_iff_ne.2 (fun e => by subst e; exact absurd (by decide +kernel) k2)
        have HS3 : Hid (SumLo w wr w.heap.size f (k + 1)) := Lib.hid ⟨by rw [totW, HX.out, if_neg kf, Int.add_zero]; exact HL.out.1, HL.out.2⟩
        have HK := Lib.hid (kinds_step (n := n) HX.out HE.out hU hD hN hM)
        clear hU hD hN hM
        cases mm
        all_goals
          go_wp2_with fail
          exact ⟨⟨k + 1, u, d, true, _, by omega, rfl, rfl, rfl, rfl, rfl, Lib.hid (by simpa using HK.out), HS3⟩, by simp [intOf]; omega⟩
    · obtain rfl : n = k := by omega
      have HR0 : Hid (sumR f n = if m || (u && d) then 9221120237041090561 else if u then 9218868437227405312 else if d then 18442240474082181120 else if totW f n ≠ 0 then sumW (totW f n) else if mm then 9223372036854775808 else 0) := Lib.hid (by
        obtain ⟨a1, a2, a3, a4⟩ := HE.out
        unfold sumR
        rw [← a1, ← a2, ← a3, ← a4])
      have HNaN := Lib.hid nan_any
      have HUp := Lib.hid inf_pos
      have HDn := Lib.hid inf_neg
      have HCs := Lib.hid copysign_0
      have HSi := Lib.hid (sum_sign HL.out.1)
      have HFl : Hid (totW f n ≠ 0 → Calls Tryz.prog 15 #[.pointer (some ⟨w.heap.size, 0, none⟩)] wr fun e w' => (∃ a : Int, e = .returned (.tuple #[.float .f64 (sumW (totW f n)), .int .i8 a])) ∧ Below w.heap.size wr w') := Lib.hid (fun h => sum_float HL.out.1 h (tot_all f n 2300 hn (by decide)) HL.out.2.size)
      clear HE HS0
      cases m
      · cases u
        · cases d
          · by_cases hT : totW f n = 0
            · have HR : Hid (sumR f n = if mm then 9223372036854775808 else 0) := Lib.hid (by rw [HR0.out]; simp [hT])
              rw [if_pos hT] at HSi
              clear hT HFl
              cases mm
              · go_wp2_with fail
                refine HSi.out.mono ?_; rintro e w2 ⟨rfl, rfl⟩
                go_wp2
                go_ret
                rw [HR.out]
                exact ⟨rfl, HL.out.2⟩
              · go_wp2_with fail
                refine HSi.out.mono ?_; rintro e w2 ⟨rfl, rfl⟩
                go_wp2_with fail
                refine (HCs.out _).mono ?_; rintro e w2 ⟨rfl, rfl⟩
                go_wp2
                go_ret
                rw [HR.out]
                exact ⟨rfl, HL.out.2⟩
            · have HR : Hid (sumR f n = sumW (totW f n)) := Lib.hid (by rw [HR0.out]; simp [hT])
              have HF2 := Lib.hid (HFl.out hT)
              rw [if_neg hT] at HSi
              obtain ⟨sg, hsg, hs0⟩ : ∃ sg : Int, (if totW f n < 0 then (-1 : Int) else 1) = sg ∧ sg ≠ 0 := ⟨_, rfl, by split <;> omega⟩
              rw [hsg] at HSi
              clear hT hsg HFl
              go_wp2_with fail
              refine HSi.out.mono ?_; rintro e w2 ⟨rfl, rfl⟩
              go_wp2_with fail
              refine HF2.out.mono ?_; rintro e w2 ⟨⟨acc2, rfl⟩, hB2⟩
              have HB2 := Lib.hid (HL.out.2.trans hB2)
              clear hB2
              go_wp2
              go_ret
              rw [HR.out]
              exact ⟨rfl, HB2.out⟩
          · go_wp2_with fail
            refine (HDn.out _).mono ?_; rintro e w2 ⟨rfl, rfl⟩
            go_wp2
            go_ret
            rw [HR0.out]
            exact ⟨rfl, HL.out.2⟩
        · cases d
          · go_wp2_with fail
            refine (HUp.out _).mono ?_; rintro e w2 ⟨rfl, rfl⟩
            go_wp2
            go_ret
            rw [HR0.out]
            exact ⟨rfl, HL.out.2⟩
          · go_wp2_with fail
            refine (HNaN.out _).mono ?_; rintro e w2 ⟨rfl, rfl⟩
            go_wp2
            go_ret
            rw [HR0.out]
            exact ⟨rfl, HL.out.2⟩
      · go_wp2_with fail
        refine (HNaN.out _).mono ?_; rintro e w2 ⟨rfl, rfl⟩
        go_wp2
        go_ret
        rw [HR0.out]
        exact ⟨rfl, HL.out.2⟩
end Go.Proofs.YtmkdcnemocdefaaGreatFmt
