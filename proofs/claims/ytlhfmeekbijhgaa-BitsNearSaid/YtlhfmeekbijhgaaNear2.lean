/- The angle of an angle's point is that angle, but for 1: the plain law, second part: the search ends beside the angle. No program in sight. -/
import Derived.Test.YtlhfmeekbijhgaaNearP
namespace Go.Proofs.Ytlhfmeekbijhgaa
open Fl

def tt (k : Int) : Rat := (k : Rat) * hh
theorem hh_pos : 0 < hh := by unfold hh; decide +kernel
theorem tt_le {k m : Int} (h : k + 1 ≤ m) : tt k + hh ≤ tt m := by
  have a : ((k + 1 : Int) : Rat) ≤ (m : Rat) := Rat.intCast_le_intCast.2 h
  have b := Rat.mul_le_mul_of_nonneg_right a (Rat.le_of_lt hh_pos)
  rw [Rat.intCast_add] at b
  unfold tt
  have e : ((1 : Int) : Rat) = 1 := rfl
  rw [e] at b
  grind
theorem tt_mono {k m : Int} (h : k ≤ m) : tt k ≤ tt m := by
  have a : (k : Rat) ≤ (m : Rat) := Rat.intCast_le_intCast.2 h
  exact Rat.mul_le_mul_of_nonneg_right a (Rat.le_of_lt hh_pos)
theorem tt_zero : tt 0 = 0 := by unfold tt; simp
theorem tt_ee : tt 162000000000 = ee := rfl
theorem tt_bd {k : Int} (h0 : 0 ≤ k) (h1 : k ≤ 162000000000) : 0 ≤ tt k ∧ tt k ≤ ee := by
  have a := tt_mono h0
  have b := tt_mono h1
  rw [tt_zero] at a
  rw [tt_ee] at b
  exact ⟨a, b⟩
theorem tt_sub (k m : Int) : tt (k - m) = tt k - tt m := by unfold tt; rw [Rat.intCast_sub]; grind
theorem tt_neg (k : Int) : tt (-k) = -tt k := by unfold tt; rw [Rat.intCast_neg]; grind

/-- The exact sine and cosine of the n-th angle of the first quarter. -/
def sA (n : Int) : Rat := if n < 162000000000 then sinQ (tt n) else cosQ (tt (324000000000 - n))
def cA (n : Int) : Rat := if n < 162000000000 then cosQ (tt n) else sinQ (tt (324000000000 - n))

theorem cosQ_bd {x : Rat} (h0 : 0 ≤ x) (h1 : x ≤ ee) : 7/10 ≤ cosQ x ∧ cosQ x ≤ 1 := by
  have a := cos_low h0 h1
  have k := corner_c
  have b := Rat.mul_nonneg (show 0 ≤ ee - x by grind) (show (0 : Rat) ≤ 34/100 by decide +kernel)
  have c := cos_falls Rat.le_refl h0 h1
  have c0 : cosQ 0 = 1 := by unfold cosQ; simp; exact Rat.add_zero 1
  have d := sq_nonneg x
  rw [c0] at c
  constructor <;> grind
theorem sinQ_bd {x : Rat} (h0 : 0 ≤ x) (h1 : x ≤ ee) : 0 ≤ sinQ x ∧ sinQ x ≤ 1 := by
  have a := sin_low h0 h1
  have g := sin_grows h0 h1 Rat.le_refl
  have k : sinQ ee ≤ 1 := by unfold sinQ; rw [ez, sqq, eeE]; decide +kernel
  have b := Rat.mul_nonneg (show 0 ≤ ee - x by grind) (show (0 : Rat) ≤ 67/100 by decide +kernel)
  constructor <;> grind
theorem sA_bd {n : Int} (h0 : 0 ≤ n) (h1 : n ≤ 324000000000) : 0 ≤ sA n ∧ sA n ≤ 1 := by
  unfold sA
  split
  · have := tt_bd h0 (by omega); exact sinQ_bd this.1 this.2
  · have := tt_bd (k := 324000000000 - n) (by omega) (by omega); have := cosQ_bd this.1 this.2; exact ⟨by grind, this.2⟩
theorem cA_bd {n : Int} (h0 : 0 ≤ n) (h1 : n ≤ 324000000000) : 0 ≤ cA n ∧ cA n ≤ 1 := by
  unfold cA
  split
  · have := tt_bd h0 (by omega); have := cosQ_bd this.1 this.2; exact ⟨by grind, this.2⟩
  · have := tt_bd (k := 324000000000 - n) (by omega) (by omega); exact sinQ_bd this.1 this.2

theorem far_apart {m r : Int} (h0 : 0 ≤ r) (h : r + 1 ≤ m) (h1 : m ≤ 324000000000) : hh * (2/10) ≤ sA m * cA r - cA m * sA r := by
  have hp := hh_pos
  unfold sA cA
  by_cases c1 : m < 162000000000
  · have c2 : r < 162000000000 := by omega
    rw [if_pos c1, if_pos c2, if_pos c1, if_pos c2]
    have a := tt_bd h0 (by omega : r ≤ 162000000000)
    have b := tt_bd (by omega : 0 ≤ m) (by omega : m ≤ 162000000000)
    have l := tt_le h
    have c := cross a.1 (show tt r ≤ tt m by grind) b.2
    grind
  · by_cases c2 : r < 162000000000
    · rw [if_neg c1, if_pos c2, if_neg c1, if_pos c2]
      have a := tt_bd h0 (by omega : r ≤ 162000000000)
      have b := tt_bd (k := 324000000000 - m) (by omega) (by omega)
      have l := tt_le (k := r + (324000000000 - m)) (m := 324000000000) (by omega)
      have e1 : tt (r + (324000000000 - m)) = tt r + tt (324000000000 - m) := by unfold tt; rw [Rat.intCast_add]; grind
      have e2 : tt 324000000000 = ee + ee := by unfold tt ee hh; decide +kernel
      rw [e1, e2] at l
      have c := across b.1 b.2 a.1 a.2 (d := hh) (by grind) (by grind)
      have k : uu * 20 ≤ hh * (3/100) := by unfold hh; decide +kernel
      grind
    · rw [if_neg c1, if_neg c2, if_neg c1, if_neg c2]
      have a := tt_bd (k := 324000000000 - m) (by omega) (by omega)
      have b := tt_bd (k := 324000000000 - r) (by omega) (by omega)
      have l := tt_le (k := 324000000000 - m) (m := 324000000000 - r) (by omega)
      have c := cross a.1 (show tt (324000000000 - m) ≤ tt (324000000000 - r) by grind) b.2
      grind

theorem cosQ_neg (t : Rat) : cosQ (-t) = cosQ t := by
  unfold cosQ
  have : -t * -t = t * t := by grind
  rw [this]
theorem sinQ_neg (t : Rat) : sinQ (-t) = - sinQ t := by
  unfold sinQ
  have : -t * -t = t * t := by grind
  rw [this]
  grind

/-- What comes of the m-th angle of the first quarter. -/
theorem first_near {m : Int} (h0 : 0 ≤ m) (h1 : m ≤ 324000000000) : Near (uu * 4) (rv (sinV m)) (sA m) ∧ Near (uu * 4) (rv (cosV m)) (cA m) := by
  unfold sA cA sinV cosV
  by_cases c : m < 162000000000
  · have hq : qq m = 0 := by unfold qq nrmT; omega
    have hr : rr m = m := by unfold rr; rw [hq]; unfold nrmT; omega
    have hq4 : qq m % 4 = 0 := by omega
    rw [if_pos c, if_pos c, if_pos hq4, if_pos hq4, xx_xr, zz_zr, hr]
    exact ⟨sinP_near m (by omega) (by omega), cosP_near m (by omega) (by omega)⟩
  · have hq : qq m = 1 := by unfold qq nrmT; omega
    have hr : rr m = m - 324000000000 := by unfold rr; rw [hq]; unfold nrmT; omega
    have hq4 : ¬ qq m % 4 = 0 := by omega
    have hq1 : qq m % 4 = 1 := by omega
    rw [if_neg c, if_neg c, if_neg hq4, if_pos hq1, if_neg hq4, if_pos hq1, xx_xr, zz_zr, hr]
    have a := cosP_near (m - 324000000000) (by omega) (by omega)
    have b := sinP_near (m - 324000000000) (by omega) (by omega)
    have e : ((m - 324000000000 : Int) : Rat) * hh = -(tt (324000000000 - m)) := by
      rw [← tt_neg]; unfold tt; congr 2; omega
    rw [e, cosQ_neg] at a
    rw [e, sinQ_neg] at b
    refine ⟨a, ?_⟩
    have hn := sinP_sz ((xr_near (m - 324000000000) (by omega) (by omega)).1.mono (show _ ≤ (1 : Rat) by decide +kernel)) (zr_near (m - 324000000000) (by omega) (by omega)).1
    have n := (neg_rv hn.1).2
    unfold fneg at n
    rw [n]
    unfold Near at b ⊢
    constructor <;> grind

theorem scaled_mul {x y : Nat} {v w s : Rat} (hx : isNum x = true) (hy : isNum y = true) (hv : Near (uu * 4) (rv x) v) (bv : Bd 1 v) (hw : Near (s * (uu * 20)) (rv y) (s * w)) (bw : Bd 1 w)
    (h0 : 0 ≤ s) (h1 : s * 2 < (2 : Rat) ^ (1023 : Int)) (he : eta ≤ s * uu) : isNum (fmul x y) = true ∧ Near (s * (uu * 30)) (rv (fmul x y)) (s * (v * w)) := by
  have bs : Bd s s := ⟨by grind, Rat.le_refl⟩
  have bsw := bs.mul bw
  have r1 := hw.mulLeft (hv.bd bv)
  have r2 := hv.mulLeft bsw
  have e1 : s * w * rv x = rv x * (s * w) := Rat.mul_comm _ _
  rw [e1] at r2
  have r3 := r1.trans r2
  have k1 := Rat.mul_le_mul_of_nonneg_left (show (1 + uu * 4) * (uu * 20) + 1 * (uu * 4) ≤ uu * 25 by decide +kernel) h0
  have r4 : Near (s * (uu * 25)) (rv x * rv y) (s * w * v) := r3.mono (by grind)
  have bt := r4.bd (bsw.mul bv)
  have k2 := Rat.mul_le_mul_of_nonneg_left (show 1 + uu * 25 ≤ 2 by decide +kernel) h0
  have bt2 := bt.mono (show s * 1 * 1 + s * (uu * 25) ≤ s * 2 by grind)
  have m := mul_rv hx hy (s * 2) bt2.1 bt2.2 h1
  have mn : Near (uu * (s * 2) + eta) (rv (fmul x y)) (rv x * rv y) := m.2
  refine ⟨m.1, ?_⟩
  have e2 : s * w * v = s * (v * w) := by grind
  rw [e2] at r4
  refine (mn.trans r4).mono ?_
  grind

theorem pred_far {u w : Nat} {m r : Int} {s : Rat} (hu : isNum u = true) (hw : isNum w = true) (U : Near (s * (uu * 20)) (rv u) (s * cA r)) (W : Near (s * (uu * 20)) (rv w) (s * sA r))
    (h0 : 0 < s) (h1 : s * 2 < (2 : Rat) ^ (1023 : Int)) (he : eta ≤ s * uu) (m0 : 0 ≤ m) (m1 : m ≤ 324000000000) (r0 : 0 ≤ r) (r1 : r ≤ 324000000000) :
    (r + 1 ≤ m → predB u w m = false) ∧ (m ≤ r - 1 → predB u w m = true) := by
  have f := first_near m0 m1
  have sm := sA_bd m0 m1
  have cm := cA_bd m0 m1
  have sr := sA_bd r0 r1
  have cr := cA_bd r0 r1
  have L := scaled_mul (sinV_sz m).1 hu f.1 ⟨by grind, by grind⟩ U ⟨by grind, by grind⟩ (Rat.le_of_lt h0) h1 he
  have R := scaled_mul (cosV_sz m).1 hw f.2 ⟨by grind, by grind⟩ W ⟨by grind, by grind⟩ (Rat.le_of_lt h0) h1 he
  have hs := Rat.mul_lt_mul_of_pos_left (show uu * 61 < hh * (2/10) by unfold hh; decide +kernel) h0
  have e : predB u w m = decide (rv (fmul (sinV m) u) ≤ rv (fmul (cosV m) w)) := by
    unfold predB leqB
    rw [order_rv L.1 R.1]
    by_cases c1 : rv (fmul (sinV m) u) < rv (fmul (cosV m) w)
    · have : rv (fmul (sinV m) u) ≤ rv (fmul (cosV m) w) := Rat.le_of_lt c1
      simp [c1, this]
    · by_cases c2 : rv (fmul (sinV m) u) = rv (fmul (cosV m) w)
      · have : rv (fmul (sinV m) u) ≤ rv (fmul (cosV m) w) := by rw [c2]; exact Rat.le_refl
        simp [c2]
      · have : ¬ rv (fmul (sinV m) u) ≤ rv (fmul (cosV m) w) := by grind
        simp [c1, c2, this]
  have L2 := L.2
  have R2 := R.2
  rw [e]
  unfold Near at L2 R2
  constructor
  · intro h
    have g := Rat.mul_le_mul_of_nonneg_left (far_apart r0 h m1) (Rat.le_of_lt h0)
    have : ¬ rv (fmul (sinV m) u) ≤ rv (fmul (cosV m) w) := by grind
    simp [this]
  · intro h
    have g := Rat.mul_le_mul_of_nonneg_left (far_apart m0 (show m + 1 ≤ r by omega) r1) (Rat.le_of_lt h0)
    have : rv (fmul (sinV m) u) ≤ rv (fmul (cosV m) w) := by grind
    simp [this]

/-- The search ends at the angle or just below it. -/
theorem bis_near {u w : Nat} {r : Int} (hp : ∀ m, 0 ≤ m → m ≤ 324000000000 → (r + 1 ≤ m → predB u w m = false) ∧ (m ≤ r - 1 → predB u w m = true)) (n : Nat) (lo hi : Int) (h0 : 0 ≤ lo) (h1 : lo ≤ r) (h2 : r ≤ hi) (h3 : hi ≤ 324000000001) (h4 : lo < hi) (h5 : hi - lo ≤ 2 ^ n) :
    r - 1 ≤ bisF u w n lo hi ∧ bisF u w n lo hi ≤ r := by
  induction n generalizing lo hi with
  | zero => simp at h5; unfold bisF; omega
  | succ n ih =>
    unfold bisF
    have h5' : hi - lo ≤ 2 * 2 ^ n := by rw [Int.pow_succ] at h5; omega
    split
    · have p := hp ((lo + hi) / 2) (by omega) (by omega)
      split
      · rename_i c
        have : ¬ r + 1 ≤ (lo + hi) / 2 := fun g => by rw [p.1 g] at c; cases c
        exact ih _ _ (by omega) (by omega) h2 h3 (by omega) (by omega)
      · rename_i c
        have : ¬ (lo + hi) / 2 ≤ r - 1 := fun g => c (p.2 g)
        exact ih _ _ h0 h1 (by omega) (by omega) (by omega) (by omega)
    · omega
end Go.Proofs.Ytlhfmeekbijhgaa
