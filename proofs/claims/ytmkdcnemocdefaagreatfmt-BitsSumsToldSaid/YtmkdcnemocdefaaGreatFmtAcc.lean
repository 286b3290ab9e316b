/- The sum so far, and one number more. -/
import Derived.Test.YtmkdcnemocdefaaGreatFmtAdd2
import Derived.Test.YtmkdcnemocdefaaGreatFmtFrz
import Derived.Test.YtmkdcnemocdefaaGreatFmtDbl1
namespace Go.Proofs.YtmkdcnemocdefaaGreatFmt
open Go.RowKit

/-- The sum so far: T units. -/
def SumSt (K B0 : Nat) (w : World) (b : Nat) (T : Int) : Prop := B0 ≤ b ∧
  ((T ≠ 0 ∧ ∃ g c acc, Fin K w b g c acc (decide (T < 0)) T.natAbs ∧ B0 ≤ g ∧ c ≤ 1000) ∨
   (T = 0 ∧ ∃ acc neg mv ex, Flt w b 2400 acc 0 neg mv ex ∧ (mv = .slice none 0 0 ∨ ∃ g c k f, mv = .slice (some ⟨g, 0, none⟩) k c ∧ Blk w g c f ∧ B0 ≤ g ∧ c ≤ 1000)))
/-- A number, as SetFloat64 has laid it. -/
def NumSt (w : World) (p x : Nat) (L : Nat) : Prop := L ≤ p ∧
  ((unitsW x = 0 ∧ Flt w p 53 0 0 (sgnW x) (.slice none 0 0) 0) ∨
   (unitsW x ≠ 0 ∧ ∃ gy, Flt w p 53 0 1 (sgnW x) (.slice (some ⟨gy, 0, none⟩) 1 1) ((exW x : Int) - 1074) ∧ Blk w gy 1 (fun _ => normW x) ∧ L ≤ gy))
theorem word_ne_float : (71 : Nat) ≠ 36 := by decide
theorem blk_flt {w : World} {g c b prec form : Nat} {f : Nat → Nat} {acc ex : Int} {neg : Bool} {mv : Value} (h : Blk w g c f) (k : Flt w b prec acc form neg mv ex) : b ≠ g := by
  intro e
  subst e
  obtain ⟨cs, h1, _⟩ := h
  have k' := k
  unfold Flt at k'
  rw [h1] at k'
  injection k' with q
  injection q with q1 q2
  exact word_ne_float q2
theorem Fin.of_eq {K : Nat} {w w' : World} {b g c S : Nat} {acc : Int} {neg : Bool} (h : Fin K w b g c acc neg S) (e1 : w'.heap[b]? = w.heap[b]?) (e2 : w'.heap[g]? = w.heap[g]?) : Fin K w' b g c acc neg S := by
  obtain ⟨n, f, A, h1, h2, h3⟩ := h
  exact ⟨n, f, A, h1.of_eq e1, h2.of_eq e2, h3⟩
theorem Fin.lt {K : Nat} {w : World} {b g c S : Nat} {acc : Int} {neg : Bool} (h : Fin K w b g c acc neg S) : b < w.heap.size ∧ g < w.heap.size := by
  obtain ⟨n, f, A, h1, h2, h3⟩ := h
  exact ⟨h1.lt, h2.lt⟩
theorem SumSt.keep {K B0 : Nat} {w w' : World} {b : Nat} {T : Int} (h : SumSt K B0 w b T) (hU : ∀ i, i < w.heap.size → w'.heap[i]? = w.heap[i]?) : SumSt K B0 w' b T := by
  obtain ⟨hb, h⟩ := h
  refine ⟨hb, ?_⟩
  rcases h with ⟨h0, g, c, acc, hF, h2⟩ | ⟨h0, acc, neg, mv, ex, hF, hm⟩
  · have ⟨l1, l2⟩ := hF.lt
    exact Or.inl ⟨h0, g, c, acc, hF.of_eq (hU b l1) (hU g l2), h2⟩
  · refine Or.inr ⟨h0, acc, neg, mv, ex, hF.of_eq (hU b hF.lt), ?_⟩
    rcases hm with e | ⟨g, c, k, f, e, h1, h2⟩
    · exact Or.inl e
    · exact Or.inr ⟨g, c, k, f, e, h1.of_eq (hU g h1.lt), h2⟩
/-- The sign and the size of a sum. -/
theorem sum_like {T : Int} {U : Nat} {s : Bool} (hT : T ≠ 0) (hs : decide (T < 0) = s) : T + (if s then -(U : Int) else (U : Int)) ≠ 0 ∧ (T + (if s then -(U : Int) else (U : Int))).natAbs = T.natAbs + U ∧ decide (T + (if s then -(U : Int) else (U : Int)) < 0) = s := by
  subst hs
  by_cases h : T < 0
  · rw [decide_eq_true h, if_pos rfl]
    exact ⟨by omega, by omega, decide_eq_true (by omega)⟩
  · rw [decide_eq_false h, if_neg Bool.false_ne_true]
    exact ⟨by omega, by omega, decide_eq_false (by omega)⟩
theorem sum_more {T : Int} {U : Nat} {s : Bool} (hs : decide (T < 0) ≠ s) (h : U < T.natAbs) : T + (if s then -(U : Int) else (U : Int)) ≠ 0 ∧ (T + (if s then -(U : Int) else (U : Int))).natAbs = T.natAbs - U ∧ decide (T + (if s then -(U : Int) else (U : Int)) < 0) = decide (T < 0) := by
  by_cases k : T < 0
  · rw [decide_eq_true k] at hs ⊢
    have e : s = false := by cases s <;> simp_all
    rw [e, if_neg Bool.false_ne_true]
    exact ⟨by omega, by omega, decide_eq_true (by omega)⟩
  · rw [decide_eq_false k] at hs ⊢
    have e : s = true := by cases s <;> simp_all
    rw [e, if_pos rfl]
    exact ⟨by omega, by omega, decide_eq_false (by omega)⟩
theorem sum_less {T : Int} {U : Nat} {s : Bool} (hs : decide (T < 0) ≠ s) (h : T.natAbs ≤ U) : (T + (if s then -(U : Int) else (U : Int))).natAbs = U - T.natAbs ∧ (U - T.natAbs ≠ 0 → decide (T + (if s then -(U : Int) else (U : Int)) < 0) = !decide (T < 0)) := by
  by_cases k : T < 0
  · rw [decide_eq_true k] at hs ⊢
    have e : s = false := by cases s <;> simp_all
    rw [e, if_neg Bool.false_ne_true]
    exact ⟨by omega, fun _ => decide_eq_false (by omega)⟩
  · rw [decide_eq_false k] at hs ⊢
    have e : s = true := by cases s <;> simp_all
    rw [e, if_pos rfl]
    exact ⟨by omega, fun h0 => decide_eq_true (by omega)⟩
theorem numW_if (x : Nat) : numW x = if sgnW x then -(unitsW x : Int) else (unitsW x : Int) := rfl

theorem add_step (K B B0 L : Nat) (b p x : Nat) (T : Int) (w0 w : World) (hK : 4000 ≤ K) (hB : B ≤ 2300) (hS : SumSt K B0 w0 b T) (hU : ∀ i, i < w0.heap.size → w.heap[i]? = w0.heap[i]?) (hL : w0.heap.size ≤ L) (hN : NumSt w p x L) (hB0 : B0 ≤ w.heap.size)
    (hf : fieldW x < 2047) (hb : T.natAbs + unitsW x < 2 ^ B) :
    Calls Tryz.prog 9 #[.pointer (some ⟨b, 0, none⟩), .pointer (some ⟨b, 0, none⟩), .pointer (some ⟨p, 0, none⟩)] w fun e w' => e = .returned (.pointer (some ⟨b, 0, none⟩)) ∧ SumSt K B0 w' b (T + numW x) ∧ Below B0 w w' := by
  have hS' := hS.keep hU
  obtain ⟨hbB, hSc⟩ := hS
  obtain ⟨_, hSd⟩ := hS'
  obtain ⟨hLp, hN⟩ := hN
  rcases hSc with ⟨hT, g, c, acc, hF0, hg, hc⟩ | ⟨hT, acc, neg, mv, ex, hF0, hm0⟩
  · have ⟨lb, lg⟩ := hF0.lt
    have hF := hF0.of_eq (hU b lb) (hU g lg)
    obtain ⟨n, f, A, h1, h2, h3, h4, h5, h6⟩ := hF
    rcases hN with ⟨h0, hy⟩ | ⟨h0, gy, hy, hv, hLg⟩
    · refine (add_y0 b p acc 0 _ 0 _ (sgnW x) _ _ w h1 hy).mono ?_
      rintro e w' ⟨rfl, m, rfl⟩
      have hbg := blk_flt h2 h1
      have e0 : T + numW x = T := by rw [(numW_eq_zero x).2 h0, Int.add_zero]
      rw [e0]
      refine ⟨rfl, ⟨hbB, Or.inl ⟨hT, g, c, 0, ⟨n, f, A, (h1.drewN m).s2 0, (h2.drewN m).of_eq (heap_set_far (Ne.symm hbg) _ _), h3, h4, h5, h6⟩, hg, hc⟩⟩, (below_drewN (Below.refl _ _) m).setCell hbB _⟩
    · have hbg := blk_flt h2 h1
      have hbgy := blk_flt hv h1
      have hpg := blk_flt h2 hy
      have hpgy := blk_flt hv hy
      have hx := exW_lt x hf h0
      have hP : Pair K B w b g c n p gy acc 0 (decide (T < 0)) (sgnW x) f (normW x) A (exW x + (K - 64)) T.natAbs (unitsW x) :=
        { fx := h1
          fy := by
            have e : ((exW x + (K - 64) + 64 * 1 : Nat) : Int) - (K : Int) - 1074 = (exW x : Int) - 1074 := by omega
            rw [e]; exact hy
          bx := h2
          bv := hv
          wf := h3
          wv := (normW_lo x h0).2
          nc := h4
          n38 := h5
          c3 := hc
          m1 := h6
          m2 := man_word K x (by omega) h0
          bg := hbg
          bp := by omega
          by' := hbgy
          gp := Ne.symm hpg
          gy' := by omega
          py := hpgy
          sB := hb
          hB := hB
          hK := hK }
      have lift : ∀ {w' : World} {g' c' : Nat}, (g' = g ∧ c' = c ∨ w.heap.size ≤ g' ∧ c' ≤ 1000) → B0 ≤ g' ∧ c' ≤ 1000 := fun {w' g' c'} q => by
        rcases q with ⟨e1, e2⟩ | ⟨e1, e2⟩
        · exact ⟨by omega, by omega⟩
        · exact ⟨by omega, e2⟩
      rw [numW_if]
      by_cases hs : decide (T < 0) = sgnW x
      · have ⟨q1, q2, q3⟩ := sum_like (U := unitsW x) hT hs
        rw [hs] at hP
        refine (add_like hP).mono ?_
        rintro e w' ⟨rfl, g', c', hR, hq, hFr⟩
        have ⟨r1, r2⟩ := lift (w' := w') hq
        refine ⟨rfl, ⟨hbB, Or.inl ⟨q1, g', c', 0, by rw [q2, q3]; exact hR, r1, r2⟩⟩, hFr.2.2 B0 hbB hg hB0⟩
      · refine (add_unlike hP hs).mono ?_
        rintro e w' ⟨rfl, k1, k2⟩
        rcases Nat.lt_or_ge (unitsW x) T.natAbs with q | q
        · obtain ⟨g', c', hR, hq, _, hFr⟩ := k1 q
          have ⟨q1, q2, q3⟩ := sum_more hs q
          have ⟨r1, r2⟩ := lift (w' := w') hq
          refine ⟨rfl, ⟨hbB, Or.inl ⟨q1, g', c', 0, ?_, r1, r2⟩⟩, hFr.2.2 B0 hbB hg hB0⟩
          rw [q2, q3]
          rcases hR with ⟨_, hR⟩ | ⟨z, _⟩
          · exact hR
          · omega
        · obtain ⟨g', c', hR, hq, _, hFr⟩ := k2 q
          have ⟨q2, q3⟩ := sum_less hs q
          have ⟨r1, r2⟩ := lift (w' := w') hq
          rcases hR with ⟨z, hR⟩ | ⟨z, k, f', ex', hR, hBk⟩
          · refine ⟨rfl, ⟨hbB, Or.inl ⟨?_, g', c', 0, by rw [q2, q3 z]; exact hR, r1, r2⟩⟩, hFr.2.2 B0 hbB hg hB0⟩
            intro e
            rw [e] at q2
            exact z q2.symm
          · refine ⟨rfl, ⟨hbB, Or.inr ⟨by omega, 0, false, _, ex', hR, Or.inr ⟨g', c', k, f', rfl, hBk, r1, r2⟩⟩⟩, hFr.2.2 B0 hbB hg hB0⟩
  · have lb := hF0.lt
    have h1 := hF0.of_eq (hU b lb)
    rcases hN with ⟨h0, hy⟩ | ⟨h0, gy, hy, hv, hLg⟩
    · refine (add_00 b p acc 0 ex 0 neg (sgnW x) mv _ w h1 hy).mono ?_
      rintro e w' ⟨rfl, m, ng, rfl⟩
      have e0 : T + numW x = 0 := by rw [(numW_eq_zero x).2 h0, hT]; rfl
      rw [e0]
      refine ⟨rfl, ⟨hbB, Or.inr ⟨rfl, 0, ng, mv, ex, (((h1.drewN m).s2 0).s3 0).s4 ng, ?_⟩⟩, (((below_drewN (Below.refl _ _) m).setCell hbB _).setCell hbB _).setCell hbB _⟩
      rcases hm0 with e | ⟨g, c, k, f, e, k1, k2⟩
      · exact Or.inl e
      · have k1' := k1.of_eq (hU g k1.lt)
        have hbg := blk_flt k1' h1
        exact Or.inr ⟨g, c, k, f, e, (((k1'.drewN m).of_eq (heap_set_far (Ne.symm hbg) _ _)).of_eq (heap_set_far (Ne.symm hbg) _ _)).of_eq (heap_set_far (Ne.symm hbg) _ _), k2⟩
    · have hbgy := blk_flt hv h1
      have hx := exW_lt x hf h0
      have hn := normW_lo x h0
      have hOld : ∃ g c, Old w mv g c ∧ b ≠ g ∧ p ≠ g ∧ B0 ≤ g ∧ c ≤ 1000 := by
        rcases hm0 with e | ⟨g, c, k, f, e, k1, k2, k3⟩
        · exact ⟨b + p + B0 + 1, 0, Or.inl ⟨e, rfl⟩, by omega, by omega, by omega, by omega⟩
        · have k1' := k1.of_eq (hU g k1.lt)
          exact ⟨g, c, Or.inr ⟨k, f, e, k1'⟩, blk_flt k1' h1, blk_flt k1' hy, k2, k3⟩
      obtain ⟨g, c, hO, hbg, hpg, hg, hc⟩ := hOld
      refine (add_x0 b p g c gy (normW x) acc 0 ex _ neg (sgnW x) mv w h1 hO hbg hy hv (by omega) hbgy hpg hn.2 (by omega)).mono ?_
      rintro e w' ⟨rfl, g', c', f, a1, a2, a3, a4, a5, a6, a7⟩
      have m2 := man_word K x (by omega) h0
      have hNT : numW x ≠ 0 := fun e => h0 ((numW_eq_zero x).1 e)
      have e0 : T + numW x = numW x := by rw [hT, Int.zero_add]
      have eN : (numW x).natAbs = unitsW x := by rw [numW_if]; split <;> omega
      have eS : decide (numW x < 0) = sgnW x := by
        rw [numW_if]
        cases hsx : sgnW x
        · rw [if_neg Bool.false_ne_true]; exact decide_eq_false (by omega)
        · rw [if_pos rfl]; exact decide_eq_true (by omega)
      rw [e0]
      have eE : ((exW x + (K - 64) + 64 * 1 : Nat) : Int) - (K : Int) - 1074 = (exW x : Int) - 1074 := by omega
      have hq : B0 ≤ g' ∧ c' ≤ 1000 := by
        rcases a6 with ⟨e1, e2⟩ | ⟨e1, e2⟩
        · exact ⟨by omega, by omega⟩
        · exact ⟨by omega, by omega⟩
      refine ⟨rfl, ⟨hbB, Or.inl ⟨hNT, g', c', 0, ⟨1, f, exW x + (K - 64), ?_, a2, fun i hi => ?_, a4, by omega, ?_⟩, hq.1, hq.2⟩⟩, a7.2.2 B0 hbB hg hB0⟩
      · rw [eE, eS]; exact a1
      · obtain rfl : i = 0 := by omega
        rw [a3]; exact hn.2
      · have en : num f 1 = normW x := by simp [num, a3]
        rw [en, eN]; exact m2
end Go.Proofs.YtmkdcnemocdefaaGreatFmt

namespace Go.Proofs.YtmkdcnemocdefaaGreatFmt
open Go.RowKit

theorem nan_any (w : World) :
    Calls Tryz.prog 12 #[] w fun e w' => e = .returned (.float .f64 9221120237041090561) ∧ w' = w := by
  have h2 := @run_callFunc_extern Tryz.prog 22 _ Extern.MathFloatBits.float64frombits Tryz.func22 (by kernel_rfl) (by kernel_rfl) (by kernel_rfl) (by kernel_rfl)
  go_enter Tryz.func12, Tryz.ntmps12
  go_wp2
  go_ret
  exact ⟨rfl, rfl⟩
theorem copysign_0 (w : World) :
    Calls Tryz.prog 16 #[.float .f64 0, .float .f64 13830554455654793216] w fun e w' => e = .returned (.float .f64 9223372036854775808) ∧ w' = w := by
  have h1 := @run_callFunc_extern Tryz.prog 17 _ Extern.MathFloatBits.float64bits Tryz.func17 (by kernel_rfl) (by kernel_rfl) (by kernel_rfl) (by kernel_rfl)
  have h2 := @run_callFunc_extern Tryz.prog 22 _ Extern.MathFloatBits.float64frombits Tryz.func22 (by kernel_rfl) (by kernel_rfl) (by kernel_rfl) (by kernel_rfl)
  have b1 : bits .andNot .u64 0 9223372036854775808 = 0 := by decide +kernel
  have b2 : bits .and .u64 13830554455654793216 9223372036854775808 = 9223372036854775808 := by decide +kernel
  have b3 : bits .or .u64 0 9223372036854775808 = 9223372036854775808 := by decide +kernel
  go_enter Tryz.func16, Tryz.ntmps16
  go_wp2
  go_ret
  exact ⟨rfl, rfl⟩
set_option maxRecDepth 20000 in
theorem setPrec_new (b : Nat) (w : World) (h : Flt w b 0 0 0 false (.slice none 0 0) 0) :
    Calls Tryz.prog 7 #[.pointer (some ⟨b, 0, none⟩), .int .u64 2400] w fun e w' => e = .returned (.pointer (some ⟨b, 0, none⟩)) ∧ w' = (w.setCell ⟨b, 2, none⟩ (.int .i8 0)).setCell ⟨b, 0, none⟩ (.int .u32 2400) := by
  have c0 := h.c0
  have c2 := h.c2
  have c3 := h.c3
  have f0 := h.fr 0
  have f2 := h.fr 2
  clear h
  go_enter Tryz.func7, Tryz.ntmps7
  go_wp2
  go_ret
  exact ⟨rfl, rfl⟩
theorem sign_any (b prec form : Nat) (acc ex : Int) (neg : Bool) (mv : Value) (w : World) (hf : form = 0 ∨ form = 1) (h : Flt w b prec acc form neg mv ex) :
    Calls Tryz.prog 14 #[.pointer (some ⟨b, 0, none⟩)] w fun e w' => e = .returned (.int .i64 (if form = 0 then 0 else if neg then -1 else 1)) ∧ w' = w := by
  have c3 := h.c3
  have c4 := h.c4
  clear h
  rcases hf with rfl | rfl
  · rw [if_pos rfl]
    go_enter Tryz.func14, Tryz.ntmps14
    go_wp2
    go_ret
    exact ⟨rfl, rfl⟩
  · rw [if_neg (by decide)]
    cases neg
    all_goals
      go_enter Tryz.func14, Tryz.ntmps14
      go_wp2
      go_ret
      exact ⟨rfl, rfl⟩
/-- The sign of the sum. -/
theorem sum_sign {K B0 b : Nat} {T : Int} {w : World} (h : SumSt K B0 w b T) :
    Calls Tryz.prog 14 #[.pointer (some ⟨b, 0, none⟩)] w fun e w' => e = .returned (.int .i64 (if T = 0 then 0 else if T < 0 then -1 else 1)) ∧ w' = w := by
  obtain ⟨_, ⟨h0, g, c, acc, ⟨n, f, A, hF, _⟩, _⟩ | ⟨h0, acc, neg, mv, ex, hF, _⟩⟩ := h
  · refine (sign_any b 2400 1 acc _ _ _ w (Or.inr rfl) hF).mono ?_
    rintro e w' ⟨rfl, rfl⟩
    rw [if_neg (by decide), if_neg h0]
    by_cases k : T < 0
    · rw [decide_eq_true k, if_pos rfl, if_pos k]; exact ⟨rfl, rfl⟩
    · rw [decide_eq_false k, if_neg Bool.false_ne_true, if_neg k]; exact ⟨rfl, rfl⟩
  · refine (sign_any b 2400 0 acc ex neg mv w (Or.inl rfl) hF).mono ?_
    rintro e w' ⟨rfl, rfl⟩
    rw [if_pos rfl, if_pos h0]
    exact ⟨rfl, rfl⟩
/-- The double of a sum that is not nought. -/
def sumW (T : Int) : Nat := sgnB (decide (T < 0)) + rndW T.natAbs
theorem sum_float {K B0 b : Nat} {T : Int} {w : World} (h : SumSt K B0 w b T) (h0 : T ≠ 0) (hT : T.natAbs < 2 ^ 2300) (hB : B0 ≤ w.heap.size) :
    Calls Tryz.prog 15 #[.pointer (some ⟨b, 0, none⟩)] w fun e w' => (∃ a : Int, e = .returned (.tuple #[.float .f64 (sumW T), .int .i8 a])) ∧ Below B0 w w' := by
  obtain ⟨_, ⟨_, g, c, acc, ⟨n, f, A, h1, h2, h3, h4, h5, h6⟩, _⟩ | ⟨e, _⟩⟩ := h
  · have hb := h6.bound 2300 hT
    refine (float64_any K b g n c A T.natAbs acc _ f w h1 h2 h3 h4 h5 h6 (by omega)).mono ?_
    rintro e w' ⟨ha, hB'⟩
    exact ⟨ha, hB'.mono hB⟩
  · exact absurd e h0
end Go.Proofs.YtmkdcnemocdefaaGreatFmt

namespace Go.Proofs.YtmkdcnemocdefaaGreatFmt

/-- Whether one of the first k words is of a kind. -/
def anyW (P : Nat → Bool) (f : Nat → Nat) : Nat → Bool
  | 0 => false
  | k + 1 => anyW P f k || P (f k)
/-- Whether all of the first k words are the nought below nought. -/
def allM (f : Nat → Nat) : Nat → Bool
  | 0 => true
  | k + 1 => allM f k && (f k == 9223372036854775808)
def isU (x : Nat) : Bool := x == 9218868437227405312
def isD (x : Nat) : Bool := x == 18442240474082181120
def isN (x : Nat) : Bool := decide (fieldW x = 2047 ∧ fracW x ≠ 0)
/-- The sum of the first k words that are numbers. -/
def totW (f : Nat → Nat) : Nat → Int
  | 0 => 0
  | k + 1 => totW f k + (if fieldW (f k) < 2047 then numW (f k) else 0)
/-- What a sum comes to. -/
def sumR (f : Nat → Nat) (n : Nat) : Nat :=
  if anyW isN f n || (anyW isU f n && anyW isD f n) then 9221120237041090561
  else if anyW isU f n then 9218868437227405312
  else if anyW isD f n then 18442240474082181120
  else if totW f n ≠ 0 then sumW (totW f n)
  else if decide (0 < n) && allM f n then 9223372036854775808 else 0
/-- The kinds of words. -/
inductive KindW (x : Nat) : Prop
  | zero : x = 0 → KindW x
  | minus : x = 9223372036854775808 → KindW x
  | num : fieldW x < 2047 → unitsW x ≠ 0 → KindW x
  | up : x = 9218868437227405312 → KindW x
  | down : x = 18442240474082181120 → KindW x
  | nan : fieldW x = 2047 → fracW x ≠ 0 → KindW x
theorem kind_of (x : Nat) (h : x < 18446744073709551616) : KindW x := by
  have l : fieldW x < 2048 := Nat.mod_lt _ (by decide)
  rcases Nat.lt_or_ge (fieldW x) 2047 with c | c
  · by_cases u : unitsW x = 0
    · have ⟨a, b⟩ := (unitsW_zero x).1 u
      unfold fieldW at a
      unfold fracW at b
      by_cases d : x < 9223372036854775808
      · exact .zero (by omega)
      · exact .minus (by omega)
    · exact .num c u
  · by_cases d : fracW x = 0
    · have c' : fieldW x = 2047 := by omega
      unfold fieldW at c'
      unfold fracW at d
      by_cases g : x < 9223372036854775808
      · exact .up (by omega)
      · exact .down (by omega)
    · exact .nan (by omega) d
/-- A bound of every number's units. -/
def bigE : Nat := 2098
def bigM : Nat := 2 ^ bigE
theorem bigM_eq : bigM = 2 ^ bigE := by unfold bigM; exact Eq.refl _
theorem bigE_eq : bigE = 2098 := rfl
theorem units_bound (x : Nat) (h : fieldW x < 2047) : unitsW x < bigM := by
  rw [bigM_eq]
  exact unitsW_lt x bigE h (by rw [bigE_eq]; exact Nat.le_refl _)
theorem pow_room (e B : Nat) (h : e + 12 ≤ B) : 4096 * 2 ^ e ≤ 2 ^ B := by
  rw [show (4096 : Nat) = 2 ^ 12 by rfl, ← Nat.pow_add]
  exact Nat.pow_le_pow_right (by decide) (by omega)
theorem big_room (B : Nat) (h : 2110 ≤ B) : 4096 * bigM ≤ 2 ^ B := by
  rw [bigM_eq]
  exact pow_room bigE B (by rw [bigE_eq]; omega)
theorem big_pos : 0 < bigM := by rw [bigM_eq]; exact Nat.two_pow_pos _
theorem tot_bound (f : Nat → Nat) : ∀ k, (totW f k).natAbs ≤ k * bigM
  | 0 => by simp [totW]
  | k + 1 => by
    have i := tot_bound f k
    rw [totW, Nat.succ_mul]
    by_cases c : fieldW (f k) < 2047
    · have u := units_bound (f k) c
      rw [if_pos c]
      have e : (numW (f k)).natAbs = unitsW (f k) := by
        unfold numW
        split <;> omega
      omega
    · rw [if_neg c]; omega
/-- The sum keeps to its room. -/
theorem tot_room (f : Nat → Nat) (k : Nat) (hk : k ≤ 300) : (totW f k).natAbs ≤ 300 * bigM := Nat.le_trans (tot_bound f k) (Nat.mul_le_mul_right _ hk)
theorem tot_step (f : Nat → Nat) (k B : Nat) (hk : k ≤ 300) (h : fieldW (f k) < 2047) (hB : 2110 ≤ B) : (totW f k).natAbs + unitsW (f k) < 2 ^ B := by
  have a := tot_room f k hk
  have b := units_bound (f k) h
  have c := big_room B hB
  omega
theorem tot_all (f : Nat → Nat) (k B : Nat) (hk : k ≤ 300) (hB : 2110 ≤ B) : (totW f k).natAbs < 2 ^ B := by
  have a := tot_room f k hk
  have b := big_pos
  have c := big_room B hB
  omega
end Go.Proofs.YtmkdcnemocdefaaGreatFmt
