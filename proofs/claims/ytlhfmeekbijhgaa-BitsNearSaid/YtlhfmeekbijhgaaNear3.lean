/- The angle of an angle's point is that angle, but for 1: the plain law, third part. No program in sight. -/
import Derived.Test.YtlhfmeekbijhgaaNear2
namespace Go.Proofs.Ytlhfmeekbijhgaa
open Fl

theorem abs_rv {y : Nat} (hy : isNum y = true) : isNum (absF y) = true ∧ ((0 ≤ rv y ∧ rv (absF y) = rv y) ∨ (rv y ≤ 0 ∧ rv (absF y) = - rv y)) := by
  obtain ⟨s, m, p, e⟩ := num_of hy
  have h := (read_parts e).2.1
  have hP := p2_pos p
  have hm := Rat.mul_nonneg (Rat.natCast_nonneg (a := m)) (Rat.le_of_lt hP)
  refine ⟨isNum_of h, ?_⟩
  unfold rv
  rw [e, h]
  cases s with
  | false => left; simp only [rvD]; exact ⟨by simpa using hm, trivial⟩
  | true =>
    right
    simp only [rvD, if_true, Bool.false_eq_true, if_false]
    constructor <;> grind
theorem abs_near {y : Nat} {E v : Rat} (hy : isNum y = true) (h : Near E (rv y) v) : (0 ≤ v → Near E (rv (absF y)) v) ∧ (v ≤ 0 → Near E (rv (absF y)) (-v)) := by
  have a := (abs_rv hy).2
  unfold Near at *
  constructor
  · intro g
    rcases a with ⟨a1, a2⟩ | ⟨a1, a2⟩ <;> rw [a2] <;> constructor <;> grind
  · intro g
    rcases a with ⟨a1, a2⟩ | ⟨a1, a2⟩ <;> rw [a2] <;> constructor <;> grind

theorem lt_pos {y : Nat} {E v : Rat} (hy : isNum y = true) (h : Near E (rv y) v) (g : E < v) : ltZ y = false ∧ eqZ y = false := by
  unfold Near at h
  have h1 : ¬ rv y < 0 := by grind
  have h2 : ¬ rv y = 0 := by grind
  constructor
  · cases e : ltZ y with
    | false => rfl
    | true => exact absurd ((ltZ_iff hy).1 e) h1
  · cases e : eqZ y with
    | false => rfl
    | true => exact absurd ((eqZ_iff hy).1 e) h2
theorem lt_neg {y : Nat} {E v : Rat} (hy : isNum y = true) (h : Near E (rv y) v) (g : v < -E) : ltZ y = true ∧ eqZ y = false := by
  unfold Near at h
  have h1 : rv y < 0 := by grind
  have h2 : ¬ rv y = 0 := by grind
  refine ⟨(ltZ_iff hy).2 h1, ?_⟩
  cases e : eqZ y with
  | false => rfl
  | true => exact absurd ((eqZ_iff hy).1 e) h2

/-- The size's conditions. -/
structure Sized (z : Nat) (s : Rat) : Prop where
  num : isNum z = true
  val : rv z = s
  pos : 0 < s
  top : s * 2 < (2 : Rat) ^ (1023 : Int)
  low : eta ≤ s * uu

theorem scaled_one {z c : Nat} {s v : Rat} (h : Sized z s) (hc : isNum c = true) (hv : Near (uu * 4) (rv c) v) (bv : Bd 1 v) : isNum (fmul z c) = true ∧ Near (s * (uu * 7)) (rv (fmul z c)) (s * v) := by
  have h0 := Rat.le_of_lt h.pos
  have bs : Bd s s := ⟨by grind, Rat.le_refl⟩
  have r := hv.mulLeft bs
  have b1 := (r.bd (bs.mul bv))
  have k := Rat.mul_le_mul_of_nonneg_left (show 1 + uu * 4 ≤ 2 by decide +kernel) h0
  have b2 := b1.mono (show s * 1 + s * (uu * 4) ≤ s * 2 by grind)
  have m := mul_rv h.num hc (s * 2) (by rw [h.val]; exact b2.1) (by rw [h.val]; exact b2.2) h.top
  rw [h.val] at m
  have mn : Near (uu * (s * 2) + eta) (rv (fmul z c)) (s * rv c) := m.2
  have l := h.low
  exact ⟨m.1, (mn.trans r).mono (by grind)⟩

/-- The larger part: the cosine of the rest. -/
theorem part_cos {z : Nat} {s : Rat} (h : Sized z s) (r : Int) (h1 : -162000000000 ≤ r) (h2 : r ≤ 162000000000) (k : Int) (hk : k = r ∨ k = -r) (k0 : 0 ≤ k) :
    (isNum (fmul z (cosP (zr r))) = true ∧ ltZ (fmul z (cosP (zr r))) = false ∧ eqZ (fmul z (cosP (zr r))) = false ∧ isNum (absF (fmul z (cosP (zr r)))) = true ∧ Near (s * (uu * 7)) (rv (absF (fmul z (cosP (zr r))))) (s * cosQ (tt k))) ∧
    (isNum (fmul z (Op.negFloat .f64 (cosP (zr r)))) = true ∧ ltZ (fmul z (Op.negFloat .f64 (cosP (zr r)))) = true ∧ eqZ (fmul z (Op.negFloat .f64 (cosP (zr r)))) = false ∧ isNum (absF (fmul z (Op.negFloat .f64 (cosP (zr r))))) = true ∧ Near (s * (uu * 7)) (rv (absF (fmul z (Op.negFloat .f64 (cosP (zr r)))))) (s * cosQ (tt k))) := by
  have hc := cosP_near r h1 h2
  have e : cosQ ((r : Rat) * hh) = cosQ (tt k) := by
    rcases hk with rfl | rfl
    · rfl
    · rw [tt_neg, cosQ_neg]; rfl
  rw [e] at hc
  have nz := (top_sz cos_halves (zr_near r h1 h2).1).1
  have tb := tt_bd k0 (show k ≤ 162000000000 by omega)
  have cb := cosQ_bd tb.1 tb.2
  have hs := h.pos
  have kk := Rat.mul_lt_mul_of_pos_left (show uu * 7 < 7/10 by decide +kernel) hs
  have kc := Rat.mul_le_mul_of_nonneg_left cb.1 (Rat.le_of_lt hs)
  constructor
  · have p := scaled_one h (c := cosP (zr r)) nz hc ⟨by grind, by grind⟩
    have l := lt_pos p.1 p.2 (by grind)
    exact ⟨p.1, l.1, l.2, (abs_rv p.1).1, (abs_near p.1 p.2).1 (by grind)⟩
  · have n := neg_rv (x := cosP (zr r)) nz
    unfold fneg at n
    have hc' : Near (uu * 4) (rv (Op.negFloat .f64 (cosP (zr r)))) (-cosQ (tt k)) := by
      rw [n.2]; unfold Near at hc ⊢; constructor <;> grind
    have p := scaled_one h n.1 hc' ⟨by grind, by grind⟩
    have l := lt_neg p.1 p.2 (by grind)
    have a := (abs_near p.1 p.2).2 (by grind)
    have e2 : -(s * -cosQ (tt k)) = s * cosQ (tt k) := by grind
    rw [e2] at a
    exact ⟨p.1, l.1, l.2, (abs_rv p.1).1, a⟩

theorem rvD_zero (b : Bool) (p : Int) : rvD (.number b 0 p) = 0 := by cases b <;> simp [rvD]
theorem zero_rv {s z : Nat} (hs : isNum s = true) (hz : z = 0 ∨ z = 9223372036854775808) : isNum (fmul s z) = true ∧ rv (fmul s z) = 0 := by
  obtain ⟨b, h⟩ := zero_mul hs hz
  refine ⟨isNum_of h, ?_⟩
  unfold rv
  rw [h]
  exact rvD_zero b _

/-- The smaller part: the sine of the rest. -/
theorem part_sin {z : Nat} {s : Rat} (h : Sized z s) (r : Int) (h1 : -162000000000 ≤ r) (h2 : r ≤ 162000000000) (k : Int) (hk : (k = r ∧ 0 ≤ r) ∨ (k = -r ∧ r < 0)) :
    (isNum (fmul z (sinP (xr r) (zr r))) = true ∧ ltZ (fmul z (sinP (xr r) (zr r))) = decide (r < 0) ∧ isNum (absF (fmul z (sinP (xr r) (zr r)))) = true ∧ Near (s * (uu * 7)) (rv (absF (fmul z (sinP (xr r) (zr r))))) (s * sinQ (tt k))) ∧
    (isNum (fmul z (Op.negFloat .f64 (sinP (xr r) (zr r)))) = true ∧ ltZ (fmul z (Op.negFloat .f64 (sinP (xr r) (zr r)))) = decide (0 < r) ∧ isNum (absF (fmul z (Op.negFloat .f64 (sinP (xr r) (zr r))))) = true ∧ Near (s * (uu * 7)) (rv (absF (fmul z (Op.negFloat .f64 (sinP (xr r) (zr r)))))) (s * sinQ (tt k))) := by
  have hs := h.pos
  have hc := sinP_near r h1 h2
  have nz := (sinP_sz ((xr_near r h1 h2).1.mono (show _ ≤ (1 : Rat) by decide +kernel)) (zr_near r h1 h2).1).1
  have tb := tt_bd (k := k) (by omega) (by omega)
  have sb := sinQ_bd tb.1 tb.2
  have n := neg_rv nz
  unfold fneg at n
  by_cases r0 : r = 0
  · subst r0
    have k0 : k = 0 := by omega
    subst k0
    have z0 : sinP (xr 0) (zr 0) = 0 := by decide +kernel
    rw [z0, tt_zero, sinQ_zero]
    have p := zero_rv h.num (z := 0) (Or.inl rfl)
    have q := zero_rv h.num (z := Op.negFloat .f64 0) (Or.inr rfl)
    have lz : ∀ y, isNum y = true → rv y = 0 → ltZ y = false := by
      intro y hy g
      cases e : ltZ y with
      | false => rfl
      | true =>
        have := (ltZ_iff hy).1 e
        rw [g] at this
        exact absurd this Rat.lt_irrefl
    have az : ∀ y, isNum y = true → rv y = 0 → Near (s * (uu * 7)) (rv (absF y)) (s * 0) := by
      intro y hy g
      have n0 : Near (s * (uu * 7)) (rv y) (s * 0) := by
        rw [g]
        have : 0 ≤ s * (uu * 7) := Rat.mul_nonneg (Rat.le_of_lt hs) (by decide +kernel)
        unfold Near; constructor <;> grind
      exact (abs_near hy n0).1 (by grind)
    exact ⟨⟨p.1, lz _ p.1 p.2, (abs_rv p.1).1, az _ p.1 p.2⟩, ⟨q.1, lz _ q.1 q.2, (abs_rv q.1).1, az _ q.1 q.2⟩⟩
  · have k1 : 0 + 1 ≤ k := by omega
    have tl := tt_le k1
    rw [tt_zero] at tl
    have sg := sin_grows Rat.le_refl tb.1 tb.2
    rw [sinQ_zero] at sg
    have kk := Rat.mul_lt_mul_of_pos_left (show uu * 7 < hh * (67/100) by unfold hh; decide +kernel) hs
    have sl : hh * (67/100) ≤ sinQ (tt k) := by grind
    have kc := Rat.mul_le_mul_of_nonneg_left sl (Rat.le_of_lt hs)
    have hss := Rat.mul_nonneg (Rat.le_of_lt hs) sb.1
    rcases hk with ⟨rfl, hr⟩ | ⟨rfl, hr⟩
    · have e : sinQ ((k : Rat) * hh) = sinQ (tt k) := rfl
      rw [e] at hc
      have d1 : decide (k < 0) = false := by simp; omega
      have d2 : decide (0 < k) = true := by simp; omega
      rw [d1, d2]
      constructor
      · have p := scaled_one h nz hc ⟨by grind, by grind⟩
        have l := lt_pos p.1 p.2 (by grind)
        exact ⟨p.1, l.1, (abs_rv p.1).1, (abs_near p.1 p.2).1 (by grind)⟩
      · have hc' : Near (uu * 4) (rv (Op.negFloat .f64 (sinP (xr k) (zr k)))) (-sinQ (tt k)) := by
          rw [n.2]; unfold Near at hc ⊢; constructor <;> grind
        have p := scaled_one h n.1 hc' ⟨by grind, by grind⟩
        have l := lt_neg p.1 p.2 (by grind)
        have a := (abs_near p.1 p.2).2 (by grind)
        have e2 : -(s * -sinQ (tt k)) = s * sinQ (tt k) := by grind
        rw [e2] at a
        exact ⟨p.1, l.1, (abs_rv p.1).1, a⟩
    · have e : sinQ ((r : Rat) * hh) = - sinQ (tt (-r)) := by rw [tt_neg, sinQ_neg]; unfold tt; grind
      rw [e] at hc
      have d1 : decide (r < 0) = true := by simp; omega
      have d2 : decide (0 < r) = false := by simp; omega
      rw [d1, d2]
      constructor
      · have p := scaled_one h nz hc ⟨by grind, by grind⟩
        have l := lt_neg p.1 p.2 (by grind)
        have a := (abs_near p.1 p.2).2 (by grind)
        have e2 : -(s * -sinQ (tt (-r))) = s * sinQ (tt (-r)) := by grind
        rw [e2] at a
        exact ⟨p.1, l.1, (abs_rv p.1).1, a⟩
      · have hc' : Near (uu * 4) (rv (Op.negFloat .f64 (sinP (xr r) (zr r)))) (sinQ (tt (-r))) := by
          rw [n.2]; unfold Near at hc ⊢; constructor <;> grind
        have p := scaled_one h n.1 hc' ⟨by grind, by grind⟩
        have l := lt_pos p.1 p.2 (by grind)
        exact ⟨p.1, l.1, (abs_rv p.1).1, (abs_near p.1 p.2).1 (by grind)⟩

/-- The search, where the first quarter's point is that of the k-th angle, or of its mirror image. -/
theorem lo_even {u w : Nat} {s : Rat} {k : Int} {z : Nat} (h : Sized z s) (hu : isNum u = true) (hw : isNum w = true) (U : Near (s * (uu * 7)) (rv u) (s * cosQ (tt k))) (W : Near (s * (uu * 7)) (rv w) (s * sinQ (tt k))) (k0 : 0 ≤ k) (k1 : k ≤ 162000000000) :
    k - 1 ≤ bisF u w 40 0 324000000001 ∧ bisF u w 40 0 324000000001 ≤ k := by
  have hs := Rat.le_of_lt h.pos
  have d := corner_d
  have d' := corner_d'
  have g1 := Rat.mul_le_mul_of_nonneg_left d hs
  have g2 := Rat.mul_le_mul_of_nonneg_left d' hs
  have gu := Rat.mul_nonneg hs (show 0 ≤ uu by decide +kernel)
  have U' : Near (s * (uu * 20)) (rv u) (s * cA k) := by
    unfold cA
    by_cases c : k < 162000000000
    · rw [if_pos c]; exact U.mono (by grind)
    · have : k = 162000000000 := by omega
      subst this
      rw [if_neg c]
      have e : (324000000000 - 162000000000 : Int) = 162000000000 := rfl
      rw [e, tt_ee]
      rw [tt_ee] at U
      unfold Near at U ⊢; constructor <;> grind
  have W' : Near (s * (uu * 20)) (rv w) (s * sA k) := by
    unfold sA
    by_cases c : k < 162000000000
    · rw [if_pos c]; exact W.mono (by grind)
    · have : k = 162000000000 := by omega
      subst this
      rw [if_neg c]
      have e : (324000000000 - 162000000000 : Int) = 162000000000 := rfl
      rw [e, tt_ee]
      rw [tt_ee] at W
      unfold Near at W ⊢; constructor <;> grind
  exact bis_near (fun m m0 m1 => pred_far hu hw U' W' h.pos h.top h.low m0 m1 k0 (by omega)) 40 0 324000000001 (by omega) k0 (by omega) (by omega) (by omega) (by decide)
theorem lo_odd {u w : Nat} {s : Rat} {k : Int} {z : Nat} (h : Sized z s) (hu : isNum u = true) (hw : isNum w = true) (U : Near (s * (uu * 7)) (rv u) (s * sinQ (tt k))) (W : Near (s * (uu * 7)) (rv w) (s * cosQ (tt k))) (k0 : 0 ≤ k) (k1 : k ≤ 162000000000) :
    324000000000 - k - 1 ≤ bisF u w 40 0 324000000001 ∧ bisF u w 40 0 324000000001 ≤ 324000000000 - k := by
  have hs := Rat.le_of_lt h.pos
  have gu := Rat.mul_nonneg hs (show 0 ≤ uu by decide +kernel)
  have c : ¬ 324000000000 - k < 162000000000 := by omega
  have e : 324000000000 - (324000000000 - k) = k := by omega
  have U' : Near (s * (uu * 20)) (rv u) (s * cA (324000000000 - k)) := by
    unfold cA
    rw [if_neg c, e]; exact U.mono (by grind)
  have W' : Near (s * (uu * 20)) (rv w) (s * sA (324000000000 - k)) := by
    unfold sA
    rw [if_neg c, e]; exact W.mono (by grind)
  exact bis_near (fun m m0 m1 => pred_far hu hw U' W' h.pos h.top h.low m0 m1 (by omega) (by omega)) 40 0 324000000001 (by omega) (by omega) (by omega) (by omega) (by omega) (by decide)

theorem near_all {z : Nat} {s : Rat} (h : Sized z s) (a : Int) : hasV (fmul z (sinV a)) (fmul z (cosV a)) = true ∧
    ∃ d : Int, -1 ≤ d ∧ d ≤ 1 ∧ (angV (fmul z (sinV a)) (fmul z (cosV a)) = nrmT a + d ∨ angV (fmul z (sinV a)) (fmul z (cosV a)) = nrmT a + d - 1296000000000 ∨ angV (fmul z (sinV a)) (fmul z (cosV a)) = nrmT a + d + 1296000000000) := by
  have hr := rr_bd a
  have hq := qq_bd a
  have hn : 0 ≤ nrmT a ∧ nrmT a < 1296000000000 := by unfold nrmT; omega
  have hrr : rr a = nrmT a - qq a * 324000000000 := rfl
  obtain ⟨k, hk, k0, k1⟩ : ∃ k, ((k = rr a ∧ 0 ≤ rr a) ∨ (k = -rr a ∧ rr a < 0)) ∧ 0 ≤ k ∧ k ≤ 162000000000 := by
    by_cases c : 0 ≤ rr a
    · exact ⟨rr a, Or.inl ⟨rfl, c⟩, c, hr.2⟩
    · exact ⟨-rr a, Or.inr ⟨rfl, by omega⟩, by omega, by omega⟩
  obtain ⟨cp, cn⟩ := part_cos h (rr a) hr.1 hr.2 k (by omega) k0
  obtain ⟨sp, sn⟩ := part_sin h (rr a) hr.1 hr.2 k hk
  have c4 : qq a % 4 = 0 ∨ qq a % 4 = 1 ∨ qq a % 4 = 2 ∨ qq a % 4 = 3 := by omega
  have nm : ∀ n : Int, nrmT n = n % 1296000000000 := fun _ => rfl
  rcases c4 with c | c | c | c
  · have ey : sinV a = sinP (xr (rr a)) (zr (rr a)) := by unfold sinV; rw [if_pos c]; rfl
    have ex : cosV a = cosP (zr (rr a)) := by unfold cosV; rw [if_pos c]; rfl
    rw [ey, ex]
    refine ⟨by unfold hasV; rw [cp.1, sp.1, cp.2.2.1]; rfl, ?_⟩
    have lo := lo_even h cp.2.2.2.1 sp.2.2.1 cp.2.2.2.2 sp.2.2.2 k0 k1
    have bd := loF_bd (fmul z (sinP (xr (rr a)) (zr (rr a)))) (fmul z (cosP (zr (rr a))))
    unfold angV
    rw [cp.2.1, sp.2.1]
    unfold loF at bd ⊢
    generalize bisF (absF (fmul z (cosP (zr (rr a))))) (absF (fmul z (sinP (xr (rr a)) (zr (rr a))))) 40 0 324000000001 = L at lo bd
    simp only [Bool.false_eq_true, if_false, decide_eq_true_eq]
    by_cases g : rr a < 0
    · rw [if_pos g, nm (1296000000000 - L)]; exact ⟨k - L, by omega, by omega, by omega⟩
    · rw [if_neg g]; exact ⟨L - k, by omega, by omega, by omega⟩
  · have ey : sinV a = cosP (zr (rr a)) := by unfold sinV; rw [if_neg (by omega), if_pos c]; rfl
    have ex : cosV a = Op.negFloat .f64 (sinP (xr (rr a)) (zr (rr a))) := by unfold cosV; rw [if_neg (by omega), if_pos c]; rfl
    rw [ey, ex]
    refine ⟨by unfold hasV; rw [cp.1, sn.1, cp.2.2.1]; simp, ?_⟩
    have lo := lo_odd h sn.2.2.1 cp.2.2.2.1 sn.2.2.2 cp.2.2.2.2 k0 k1
    have bd := loF_bd (fmul z (cosP (zr (rr a)))) (fmul z (Op.negFloat .f64 (sinP (xr (rr a)) (zr (rr a)))))
    unfold angV
    rw [cp.2.1, sn.2.1]
    unfold loF at bd ⊢
    generalize bisF (absF (fmul z (Op.negFloat .f64 (sinP (xr (rr a)) (zr (rr a)))))) (absF (fmul z (cosP (zr (rr a))))) 40 0 324000000001 = L at lo bd
    simp only [Bool.false_eq_true, if_false, decide_eq_true_eq]
    by_cases g : 0 < rr a
    · rw [if_pos g]; exact ⟨324000000000 - k - L, by omega, by omega, by omega⟩
    · rw [if_neg g]; exact ⟨L - (324000000000 - k), by omega, by omega, by omega⟩
  · have ey : sinV a = Op.negFloat .f64 (sinP (xr (rr a)) (zr (rr a))) := by unfold sinV; rw [if_neg (by omega), if_neg (by omega), if_pos c]; rfl
    have ex : cosV a = Op.negFloat .f64 (cosP (zr (rr a))) := by unfold cosV; rw [if_neg (by omega), if_neg (by omega), if_pos c]; rfl
    rw [ey, ex]
    refine ⟨by unfold hasV; rw [cn.1, sn.1, cn.2.2.1]; rfl, ?_⟩
    have lo := lo_even h cn.2.2.2.1 sn.2.2.1 cn.2.2.2.2 sn.2.2.2 k0 k1
    have bd := loF_bd (fmul z (Op.negFloat .f64 (sinP (xr (rr a)) (zr (rr a))))) (fmul z (Op.negFloat .f64 (cosP (zr (rr a)))))
    unfold angV
    rw [cn.2.1, sn.2.1]
    unfold loF at bd ⊢
    generalize bisF (absF (fmul z (Op.negFloat .f64 (cosP (zr (rr a)))))) (absF (fmul z (Op.negFloat .f64 (sinP (xr (rr a)) (zr (rr a)))))) 40 0 324000000001 = L at lo bd
    simp only [if_true, decide_eq_true_eq]
    by_cases g : 0 < rr a
    · rw [if_pos g]; exact ⟨L - k, by omega, by omega, by omega⟩
    · rw [if_neg g]; exact ⟨k - L, by omega, by omega, by omega⟩
  · have ey : sinV a = Op.negFloat .f64 (cosP (zr (rr a))) := by unfold sinV; rw [if_neg (by omega), if_neg (by omega), if_neg (by omega)]; rfl
    have ex : cosV a = sinP (xr (rr a)) (zr (rr a)) := by unfold cosV; rw [if_neg (by omega), if_neg (by omega), if_neg (by omega)]; rfl
    rw [ey, ex]
    refine ⟨by unfold hasV; rw [cn.1, sp.1, cn.2.2.1]; simp, ?_⟩
    have lo := lo_odd h sp.2.2.1 cn.2.2.2.1 sp.2.2.2 cn.2.2.2.2 k0 k1
    have bd := loF_bd (fmul z (Op.negFloat .f64 (cosP (zr (rr a))))) (fmul z (sinP (xr (rr a)) (zr (rr a))))
    unfold angV
    rw [cn.2.1, sp.2.1]
    unfold loF at bd ⊢
    generalize bisF (absF (fmul z (sinP (xr (rr a)) (zr (rr a))))) (absF (fmul z (Op.negFloat .f64 (cosP (zr (rr a)))))) 40 0 324000000001 = L at lo bd
    simp only [if_true, decide_eq_true_eq]
    by_cases g : rr a < 0
    · rw [if_pos g]; exact ⟨L - (324000000000 - k), by omega, by omega, by omega⟩
    · rw [if_neg g, nm (1296000000000 - L)]; exact ⟨324000000000 - k - L, by omega, by omega, by omega⟩

def small : Nat := 2362753625475748981
def large : Nat := 6850974717710472879
theorem sized_one : Sized one 1 := ⟨by decide +kernel, by decide +kernel, by decide +kernel, by decide +kernel, by decide +kernel⟩
theorem sized_of {z : Nat} (h1 : Ieee.double.order z small = some .gt) (h2 : Ieee.double.order z large = some .lt) : Sized z (rv z) := by
  have ns : isNum small = true := by decide +kernel
  have nl : isNum large = true := by decide +kernel
  have hn : isNum z = true := by
    unfold isNum
    unfold Ieee.Format.order at h1 h2
    obtain ⟨s, m, p, e⟩ := num_of ns
    obtain ⟨t, n, q, f⟩ := num_of nl
    rw [e] at h1
    rw [f] at h2
    cases hz : Ieee.double.read z with
    | number a b c => rfl
    | infinity a =>
      rw [hz] at h1 h2
      cases a <;> simp [Ieee.Datum.order] at h1 h2
    | nan a b =>
      rw [hz] at h1
      simp [Ieee.Datum.order] at h1
  rw [order_rv hn ns] at h1
  rw [order_rv hn nl] at h2
  have g1 : rv small < rv z := by
    by_cases c1 : rv z < rv small
    · rw [if_pos c1] at h1; cases h1
    · rw [if_neg c1] at h1
      by_cases c2 : rv z = rv small
      · rw [if_pos c2] at h1; cases h1
      · grind
  have g2 : rv z < rv large := by
    by_cases c1 : rv z < rv large
    · exact c1
    · rw [if_neg c1] at h2
      by_cases c2 : rv z = rv large
      · rw [if_pos c2] at h2; cases h2
      · rw [if_neg c2] at h2; cases h2
  have k0 : 0 < rv small := by decide +kernel
  have k1 : eta ≤ rv small * uu := by decide +kernel
  have k2 : rv large * 2 < (2 : Rat) ^ (1023 : Int) := by decide +kernel
  have k3 := Rat.mul_le_mul_of_nonneg_right (Rat.le_of_lt g1) (show 0 ≤ uu by decide +kernel)
  exact ⟨hn, rfl, by grind, by grind, by grind⟩
theorem fmul_lt (x y : Nat) : fmul x y < 18446744073709551616 := by
  unfold fmul
  cases h : Ieee.double.mul x y with
  | none => simp
  | some r => exact Ieee.double.mul_lt h
theorem angV_bd (y x : Nat) : 0 ≤ angV y x ∧ angV y x < 1296000000000 := by
  have b := loF_bd y x
  unfold angV
  split
  · split <;> omega
  · split
    · unfold nrmT; omega
    · omega
end Go.Proofs.Ytlhfmeekbijhgaa
