/- The reference's Take: a number added to the exact sum. -/
import Derived.Test.YtmkdcnemocdefaaGreatFmtExW
import Derived.Test.YtmkdcnemocdefaaGreatFmtFrz
namespace Go.Proofs.YtmkdcnemocdefaaGreatFmt
open Go.RowKit

theorem i64_keep (v : Int) (h : -9000000000000000000 ≤ v ∧ v ≤ 9000000000000000000) : IntKind.i64.wrap v = v := IntWalk.i64_in _ (by omega)
/-- The parts of a number that Take adds. -/
def Parts (x kk lo hi : Nat) (sg : Int) : Prop := kk ≤ 63 ∧ lo < 9223372036854775808 ∧ hi < 9223372036854775808 ∧ sg = (if sgnW x then -1 else 1) ∧
  lo % 4294967296 * 2 ^ (32 * kk) + (lo / 4294967296 + hi % 4294967296) * 2 ^ (32 * (kk + 1)) + hi / 4294967296 * 2 ^ (32 * (kk + 2)) = unitsW x
theorem parts_of (x m F : Nat) (hm : mantW x = m) (hF : placeW x = F) (hf : F ≤ 2045) (hmm : m < 9007199254740992) (sg : Int) (hs : sg = (if sgnW x then -1 else 1)) :
    Parts x (F / 32) (m % 4294967296 * 2 ^ (F % 32)) (m / 4294967296 * 2 ^ (F % 32)) sg := by
  have p : (2 : Nat) ^ (F % 32) ≤ 2 ^ 31 := Nat.pow_le_pow_right (by decide) (by omega)
  have a : m % 4294967296 * 2 ^ (F % 32) ≤ 4294967295 * 2 ^ 31 := Nat.mul_le_mul (by omega) p
  have b : m / 4294967296 * 2 ^ (F % 32) ≤ 2097151 * 2 ^ 31 := Nat.mul_le_mul (by omega) p
  refine ⟨by omega, by omega, by omega, hs, ?_⟩
  unfold unitsW
  rw [hm, hF]
  exact take_eq m F (F % 32) _ _ rfl rfl rfl

theorem vald_updI (f : Nat → Int) (k : Nat) (d : Int) (n : Nat) (h : k < n) : vald (updI f k (f k + d)) n = vald f n + d * 2 ^ (32 * k) := by
  rw [← vald_upd f k d n h]
  refine vald_congr fun i _ => ?_
  unfold updI
  split
  · rename_i e; rw [e]
  · rfl
/-- The three digits together. -/
def put3 (f : Nat → Int) (kk : Nat) (d0 d1 d2 : Int) : Nat → Int := updI (updI (updI f kk (f kk + d0)) (kk + 1) (f (kk + 1) + d1)) (kk + 2) (f (kk + 2) + d2)
theorem vald_put3 (f : Nat → Int) (kk : Nat) (d0 d1 d2 : Int) (h : kk ≤ 63) : vald (put3 f kk d0 d1 d2) 72 = vald f 72 + d0 * 2 ^ (32 * kk) + d1 * 2 ^ (32 * (kk + 1)) + d2 * 2 ^ (32 * (kk + 2)) := by
  unfold put3
  have e1 : updI f kk (f kk + d0) (kk + 1) = f (kk + 1) := if_neg (by omega)
  have e2 : updI (updI f kk (f kk + d0)) (kk + 1) (f (kk + 1) + d1) (kk + 2) = f (kk + 2) := by
    unfold updI; rw [if_neg (by omega), if_neg (by omega)]
  have a := vald_updI (updI (updI f kk (f kk + d0)) (kk + 1) (f (kk + 1) + d1)) (kk + 2) d2 72 (by omega)
  have b := vald_updI (updI f kk (f kk + d0)) (kk + 1) d1 72 (by omega)
  rw [e2] at a
  rw [e1] at b
  rw [a, b, vald_updI f kk d0 72 (by omega)]
theorem put3_near (f : Nat → Int) (kk : Nat) (d0 d1 d2 : Int) (h0 : -17179869184 ≤ d0 ∧ d0 ≤ 17179869184) (h1 : -17179869184 ≤ d1 ∧ d1 ≤ 17179869184) (h2 : -17179869184 ≤ d2 ∧ d2 ≤ 17179869184) (i : Nat) :
    f i - 17179869184 ≤ put3 f kk d0 d1 d2 i ∧ put3 f kk d0 d1 d2 i ≤ f i + 17179869184 := by
  unfold put3 updI
  split
  · rename_i e; subst e; omega
  · split
    · rename_i e; subst e; omega
    · split
      · rename_i e; subst e; omega
      · omega
theorem parts_num {x kk a1 a2 b1 b2 : Nat} (h : a1 * 2 ^ (32 * kk) + (a2 + b1) * 2 ^ (32 * (kk + 1)) + b2 * 2 ^ (32 * (kk + 2)) = unitsW x) (V : Int) :
    (sgnW x = true → V + -(a1 : Int) * 2 ^ (32 * kk) + (-(a2 : Int) + -(b1 : Int)) * 2 ^ (32 * (kk + 1)) + -(b2 : Int) * 2 ^ (32 * (kk + 2)) = V + numW x) ∧
    (sgnW x = false → V + (a1 : Int) * 2 ^ (32 * kk) + ((a2 : Int) + (b1 : Int)) * 2 ^ (32 * (kk + 1)) + (b2 : Int) * 2 ^ (32 * (kk + 2)) = V + numW x) := by
  have c : (a1 : Int) * 2 ^ (32 * kk) + ((a2 : Int) + (b1 : Int)) * 2 ^ (32 * (kk + 1)) + (b2 : Int) * 2 ^ (32 * (kk + 2)) = (unitsW x : Int) := by
    rw [← h]
    simp
  unfold numW
  generalize (2 : Int) ^ (32 * kk) = p at *
  generalize (2 : Int) ^ (32 * (kk + 1)) = q at *
  generalize (2 : Int) ^ (32 * (kk + 2)) = r at *
  constructor
  · intro s
    rw [s, if_pos rfl, ← Int.neg_add, Int.neg_mul, Int.neg_mul, Int.neg_mul]
    omega
  · intro s
    rw [s, if_neg Bool.false_ne_true]
    omega
set_option maxRecDepth 20000 in
set_option maxHeartbeats 4000000 in
theorem take_any (e h x : Nat) (f : Nat → Int) (w : World) (hx : x < 18446744073709551616) (hf : fieldW x < 2047) (H : Exa w e h f) (hB : ∀ i, i < 72 → -1000000000000000 ≤ f i ∧ f i ≤ 1000000000000000) :
    Calls Tryz.prog 19 #[.pointer (some ⟨e, 0, none⟩), .float .f64 x] w fun en w' => en = .returned (.tuple #[]) ∧ ∃ f', Exa w' e h f' ∧ Only w w' h ∧ vald f' 72 = vald f 72 + numW x ∧ ∀ i, f i - 17179869184 ≤ f' i ∧ f' i ≤ f i + 17179869184 := by
  have h1 := @run_callFunc_extern Tryz.prog 17 _ Extern.MathFloatBits.float64bits Tryz.func17 (by kernel_rfl) (by kernel_rfl) (by kernel_rfl) (by kernel_rfl)
  have HE := Lib.hid H
  have HBd := Lib.hid hB
  have c0 := HE.out.c0
  have x2 : (x : Int) / 4503599627370496 % 2048 = (fieldW x : Int) := by unfold fieldW; omega
  have x3 : (x : Int) % 4503599627370496 = (fracW x : Int) := by unfold fracW; omega
  have hfr : fracW x < 4503599627370496 := Nat.mod_lt _ (by decide)
  have hm0 : mantW x = if fieldW x = 0 then fracW x else fracW x + 4503599627370496 := rfl
  have hF0 : placeW x = fieldW x - 1 := rfl
  have hsg : sgnW x = decide (9223372036854775808 ≤ x) := by
    unfold sgnW
    by_cases c : 9223372036854775808 ≤ x
    · rw [decide_eq_true c]; exact beq_iff_eq.2 (by omega)
    · rw [decide_eq_false c]; exact beq_eq_false_iff_ne.2 (by omega)
  have HPt := Lib.hid (fun m F a b c d sg hs => parts_of x m F a b c d sg hs)
  clear H hB
  obtain ⟨fld, hfld⟩ : ∃ fld, fieldW x = fld := ⟨_, rfl⟩
  obtain ⟨fr, hfr0⟩ : ∃ fr, fracW x = fr := ⟨_, rfl⟩
  rw [hfld] at x2 hm0 hF0 hf
  rw [hfr0] at x3 hm0 hfr
  have HM := Lib.hid hm0
  have HF := Lib.hid hF0
  have HG := Lib.hid hsg
  clear hfld hfr0 hm0 hF0 hsg
  by_cases hs : 9223372036854775808 ≤ x
  · have x1 : (x : Int) / 9223372036854775808 = 1 := by omega
    go_enter Tryz.func19, Tryz.ntmps19
    go_upto_region 12 with (fail)
    · have hP := HPt.out (fr + 4503599627370496) (fld - 1) (by rw [HM.out]; exact if_neg (by omega)) (by rw [HF.out]) (by omega) (by omega) (-1) (by rw [HG.out, decide_eq_true (by omega)]; rfl)
      obtain ⟨kk, hkk⟩ : ∃ kk, (fld - 1) / 32 = kk := ⟨_, rfl⟩
      obtain ⟨lo, hlo⟩ : ∃ lo, (fr + 4503599627370496) % 4294967296 * 2 ^ ((fld - 1) % 32) = lo := ⟨_, rfl⟩
      obtain ⟨hi, hhi⟩ : ∃ hi, (fr + 4503599627370496) / 4294967296 * 2 ^ ((fld - 1) % 32) = hi := ⟨_, rfl⟩
      rw [hkk, hlo, hhi] at hP
      have ekk : ((fld : Int) - 1) / 32 = (kk : Int) := by omega
      obtain ⟨p1, p2, p3, p4, p5⟩ := hP
      have elo : IntKind.u64.wrap (((fr : Int) + 4503599627370496) % 4294967296 * 2 ^ ((fld - 1) % 32)) = (lo : Int) := by
        rw [← hlo]
        have : (((fr : Int) + 4503599627370496) % 4294967296 * 2 ^ ((fld - 1) % 32)) = (((fr + 4503599627370496) % 4294967296 * 2 ^ ((fld - 1) % 32) : Nat) : Int) := by simp
        rw [this]
        exact IntWalk.u64_in _ (by omega)
      have ehi : IntKind.u64.wrap (((fr : Int) + 4503599627370496) / 4294967296 * 2 ^ ((fld - 1) % 32)) = (hi : Int) := by
        rw [← hhi]
        have : (((fr : Int) + 4503599627370496) / 4294967296 * 2 ^ ((fld - 1) % 32)) = (((fr + 4503599627370496) / 4294967296 * 2 ^ ((fld - 1) % 32) : Nat) : Int) := by simp
        rw [this]
        exact IntWalk.u64_in _ (by omega)
      obtain ⟨a1, ha1⟩ : ∃ a1, lo % 4294967296 = a1 := ⟨_, rfl⟩
      obtain ⟨a2, ha2⟩ : ∃ a2, lo / 4294967296 = a2 := ⟨_, rfl⟩
      obtain ⟨b1, hb1⟩ : ∃ b1, hi % 4294967296 = b1 := ⟨_, rfl⟩
      obtain ⟨b2, hb2⟩ : ∃ b2, hi / 4294967296 = b2 := ⟨_, rfl⟩
      have ea1 : (lo : Int) % 4294967296 = (a1 : Int) := by omega
      have ea2 : (lo : Int) / 4294967296 = (a2 : Int) := by omega
      have eb1 : (hi : Int) % 4294967296 = (b1 : Int) := by omega
      have eb2 : (hi : Int) / 4294967296 = (b2 : Int) := by omega
      have la : a1 < 4294967296 ∧ a2 < 4294967296 ∧ b1 < 4294967296 ∧ b2 < 4294967296 := by omega
      rw [ha1, ha2, hb1, hb2] at p5
      have P5 := Lib.hid p5
      have q0 := HBd.out kk (by omega)
      have q1 := HBd.out (kk + 1) (by omega)
      have q2 := HBd.out (kk + 2) (by omega)
      obtain ⟨v0, hv0⟩ : ∃ v0, f kk = v0 := ⟨_, rfl⟩
      obtain ⟨v1, hv1⟩ : ∃ v1, f (kk + 1) = v1 := ⟨_, rfl⟩
      obtain ⟨v2, hv2⟩ : ∃ v2, f (kk + 2) = v2 := ⟨_, rfl⟩
      rw [hv0] at q0
      rw [hv1] at q1
      rw [hv2] at q2
      have c1 := HE.out.2.1.cell kk (by omega)
      have g1 := HE.out.2.1.frozen kk
      rw [hv0] at c1
      have s0 : IntKind.i64.wrap (v0 + (-1 * (a1 : Int))) = v0 + (-1 * (a1 : Int)) := i64_keep _ (by omega)
      have s1 : IntKind.i64.wrap (v1 + (-1 * (a2 : Int))) = v1 + (-1 * (a2 : Int)) := i64_keep _ (by omega)
      have s2 : IntKind.i64.wrap (v1 + (-1 * (a2 : Int)) + (-1 * (b1 : Int))) = v1 + (-1 * (a2 : Int)) + (-1 * (b1 : Int)) := i64_keep _ (by omega)
      have s3 : IntKind.i64.wrap (v2 + (-1 * (b2 : Int))) = v2 + (-1 * (b2 : Int)) := i64_keep _ (by omega)
      have t1 : IntKind.i64.wrap (a1 : Int) = (a1 : Int) := i64_keep _ (by omega)
      have t2 : IntKind.i64.wrap (a2 : Int) = (a2 : Int) := i64_keep _ (by omega)
      have t3 : IntKind.i64.wrap (b1 : Int) = (b1 : Int) := i64_keep _ (by omega)
      have t4 : IntKind.i64.wrap (b2 : Int) = (b2 : Int) := i64_keep _ (by omega)
      have u1 : IntKind.i64.wrap (-1 * (a1 : Int)) = -1 * (a1 : Int) := i64_keep _ (by omega)
      have u2 : IntKind.i64.wrap (-1 * (a2 : Int)) = -1 * (a2 : Int) := i64_keep _ (by omega)
      have u3 : IntKind.i64.wrap (-1 * (b1 : Int)) = -1 * (b1 : Int) := i64_keep _ (by omega)
      have u4 : IntKind.i64.wrap (-1 * (b2 : Int)) = -1 * (b2 : Int) := i64_keep _ (by omega)
      have k1 : IntKind.i64.wrap ((kk : Int) + 1) = ((kk + 1 : Nat) : Int) := i64_keep _ (by omega)
      have k2 : IntKind.i64.wrap ((kk : Int) + 2) = ((kk + 2 : Nat) : Int) := i64_keep _ (by omega)
      clear hkk hlo hhi ha1 ha2 hb1 hb2 p4 p5
      have HV := Lib.hid (show f kk = v0 ∧ f (kk + 1) = v1 ∧ f (kk + 2) = v2 from ⟨hv0, hv1, hv2⟩)
      clear hv0 hv1 hv2
      go_region
      all_goals
        have E1 := Lib.hid ((HE.out.set kk (v0 + -(a1 : Int))).drewN 1)
        have O1 := Lib.hid (((Only.refl w h).set kk (.int .i64 (v0 + -(a1 : Int)))).drewN 1)
        generalize hw1 : (w.setCell ⟨h, kk, none⟩ (.int .i64 (v0 + -(a1 : Int)))).drew = w1
        rw [show (w.setCell ⟨h, kk, none⟩ (.int .i64 (v0 + -(a1 : Int)))).drewN 1 = w1 from hw1] at E1 O1
        clear hw1 c0 c1 g1
        have c0 := E1.out.c0
        have c1 := E1.out.2.1.cell (kk + 1) (by omega)
        have g1 := E1.out.2.1.frozen (kk + 1)
        rw [show updI f kk (v0 + -(a1 : Int)) (kk + 1) = v1 from (if_neg (by omega)).trans HV.out.2.1] at c1
        go_wp2_with fail
        go_region
        all_goals
          have E2 := Lib.hid ((E1.out.set (kk + 1) (v1 + -(a2 : Int) + -(b1 : Int))).drewN 1)
          have O2 := Lib.hid ((O1.out.set (kk + 1) (.int .i64 (v1 + -(a2 : Int) + -(b1 : Int)))).drewN 1)
          generalize hw2 : (w1.setCell ⟨h, kk + 1, none⟩ (.int .i64 (v1 + -(a2 : Int) + -(b1 : Int)))).drew = w2
          rw [show (w1.setCell ⟨h, kk + 1, none⟩ (.int .i64 (v1 + -(a2 : Int) + -(b1 : Int)))).drewN 1 = w2 from hw2] at E2 O2
          clear hw2 c0 c1 g1
          have c0 := E2.out.c0
          have c1 := E2.out.2.1.cell (kk + 2) (by omega)
          have g1 := E2.out.2.1.frozen (kk + 2)
          rw [show updI (updI f kk (v0 + -(a1 : Int))) (kk + 1) (v1 + -(a2 : Int) + -(b1 : Int)) (kk + 2) = v2 from (if_neg (by omega)).trans ((if_neg (by omega)).trans HV.out.2.2)] at c1
          go_wp2_with fail
          go_region
          all_goals
            have E3 := Lib.hid ((E2.out.set (kk + 2) (v2 + -(b2 : Int))).drewN 1)
            have O3 := Lib.hid ((O2.out.set (kk + 2) (.int .i64 (v2 + -(b2 : Int)))).drewN 1)
            go_wp2
            refine bodyPost_end (results_none rfl _ _ _) rfl ?_
            have ef : updI (updI (updI f kk (v0 + -(a1 : Int))) (kk + 1) (v1 + -(a2 : Int) + -(b1 : Int))) (kk + 2) (v2 + -(b2 : Int)) = put3 f kk (-(a1 : Int)) (-(a2 : Int) + -(b1 : Int)) (-(b2 : Int)) := by
              obtain ⟨i0, i1, i2⟩ := HV.out
              unfold put3
              rw [i0, i1, i2, Int.add_assoc v1]
            rw [ef] at E3
            refine ⟨rfl, _, E3.out, O3.out, ?_, put3_near f kk _ _ _ (by omega) (by omega) (by omega)⟩
            rw [vald_put3 f kk _ _ _ (by omega)]
            exact (parts_num P5.out (vald f 72)).1 (by rw [HG.out]; exact decide_eq_true (by omega))
    · have hP := HPt.out fr fld (by rw [HM.out]; exact if_pos (by omega)) (by rw [HF.out]; omega) (by omega) (by omega) (-1) (by rw [HG.out, decide_eq_true (by omega)]; rfl)
      obtain ⟨kk, hkk⟩ : ∃ kk, fld / 32 = kk := ⟨_, rfl⟩
      obtain ⟨lo, hlo⟩ : ∃ lo, fr % 4294967296 * 2 ^ (fld % 32) = lo := ⟨_, rfl⟩
      obtain ⟨hi, hhi⟩ : ∃ hi, fr / 4294967296 * 2 ^ (fld % 32) = hi := ⟨_, rfl⟩
      rw [hkk, hlo, hhi] at hP
      have ekk : (fld : Int) / 32 = (kk : Int) := by omega
      obtain ⟨p1, p2, p3, p4, p5⟩ := hP
      have elo : IntKind.u64.wrap ((fr : Int) % 4294967296 * 2 ^ (fld % 32)) = (lo : Int) := by
        rw [← hlo]
        have : ((fr : Int) % 4294967296 * 2 ^ (fld % 32)) = ((fr % 4294967296 * 2 ^ (fld % 32) : Nat) : Int) := by simp
        rw [this]
        exact IntWalk.u64_in _ (by omega)
      have ehi : IntKind.u64.wrap ((fr : Int) / 4294967296 * 2 ^ (fld % 32)) = (hi : Int) := by
        rw [← hhi]
        have : ((fr : Int) / 4294967296 * 2 ^ (fld % 32)) = ((fr / 4294967296 * 2 ^ (fld % 32) : Nat) : Int) := by simp
        rw [this]
        exact IntWalk.u64_in _ (by omega)
      obtain ⟨a1, ha1⟩ : ∃ a1, lo % 4294967296 = a1 := ⟨_, rfl⟩
      obtain ⟨a2, ha2⟩ : ∃ a2, lo / 4294967296 = a2 := ⟨_, rfl⟩
      obtain ⟨b1, hb1⟩ : ∃ b1, hi % 4294967296 = b1 := ⟨_, rfl⟩
      obtain ⟨b2, hb2⟩ : ∃ b2, hi / 4294967296 = b2 := ⟨_, rfl⟩
      have ea1 : (lo : Int) % 4294967296 = (a1 : Int) := by omega
      have ea2 : (lo : Int) / 4294967296 = (a2 : Int) := by omega
      have eb1 : (hi : Int) % 4294967296 = (b1 : Int) := by omega
      have eb2 : (hi : Int) / 4294967296 = (b2 : Int) := by omega
      have la : a1 < 4294967296 ∧ a2 < 4294967296 ∧ b1 < 4294967296 ∧ b2 < 4294967296 := by omega
      rw [ha1, ha2, hb1, hb2] at p5
      have P5 := Lib.hid p5
      have q0 := HBd.out kk (by omega)
      have q1 := HBd.out (kk + 1) (by omega)
      have q2 := HBd.out (kk + 2) (by omega)
      obtain ⟨v0, hv0⟩ : ∃ v0, f kk = v0 := ⟨_, rfl⟩
      obtain ⟨v1, hv1⟩ : ∃ v1, f (kk + 1) = v1 := ⟨_, rfl⟩
      obtain ⟨v2, hv2⟩ : ∃ v2, f (kk + 2) = v2 := ⟨_, rfl⟩
      rw [hv0] at q0
      rw [hv1] at q1
      rw [hv2] at q2
      have c1 := HE.out.2.1.cell kk (by omega)
      have g1 := HE.out.2.1.frozen kk
      rw [hv0] at c1
      have s0 : IntKind.i64.wrap (v0 + (-1 * (a1 : Int))) = v0 + (-1 * (a1 : Int)) := i64_keep _ (by omega)
      have s1 : IntKind.i64.wrap (v1 + (-1 * (a2 : Int))) = v1 + (-1 * (a2 : Int)) := i64_keep _ (by omega)
      have s2 : IntKind.i64.wrap (v1 + (-1 * (a2 : Int)) + (-1 * (b1 : Int))) = v1 + (-1 * (a2 : Int)) + (-1 * (b1 : Int)) := i64_keep _ (by omega)
      have s3 : IntKind.i64.wrap (v2 + (-1 * (b2 : Int))) = v2 + (-1 * (b2 : Int)) := i64_keep _ (by omega)
      have t1 : IntKind.i64.wrap (a1 : Int) = (a1 : Int) := i64_keep _ (by omega)
      have t2 : IntKind.i64.wrap (a2 : Int) = (a2 : Int) := i64_keep _ (by omega)
      have t3 : IntKind.i64.wrap (b1 : Int) = (b1 : Int) := i64_keep _ (by omega)
      have t4 : IntKind.i64.wrap (b2 : Int) = (b2 : Int) := i64_keep _ (by omega)
      have u1 : IntKind.i64.wrap (-1 * (a1 : Int)) = -1 * (a1 : Int) := i64_keep _ (by omega)
      have u2 : IntKind.i64.wrap (-1 * (a2 : Int)) = -1 * (a2 : Int) := i64_keep _ (by omega)
      have u3 : IntKind.i64.wrap (-1 * (b1 : Int)) = -1 * (b1 : Int) := i64_keep _ (by omega)
      have u4 : IntKind.i64.wrap (-1 * (b2 : Int)) = -1 * (b2 : Int) := i64_keep _ (by omega)
      have k1 : IntKind.i64.wrap ((kk : Int) + 1) = ((kk + 1 : Nat) : Int) := i64_keep _ (by omega)
      have k2 : IntKind.i64.wrap ((kk : Int) + 2) = ((kk + 2 : Nat) : Int) := i64_keep _ (by omega)
      clear hkk hlo hhi ha1 ha2 hb1 hb2 p4 p5
      have HV := Lib.hid (show f kk = v0 ∧ f (kk + 1) = v1 ∧ f (kk + 2) = v2 from ⟨hv0, hv1, hv2⟩)
      clear hv0 hv1 hv2
      go_region
      all_goals
        have E1 := Lib.hid ((HE.out.set kk (v0 + -(a1 : Int))).drewN 1)
        have O1 := Lib.hid (((Only.refl w h).set kk (.int .i64 (v0 + -(a1 : Int)))).drewN 1)
        generalize hw1 : (w.setCell ⟨h, kk, none⟩ (.int .i64 (v0 + -(a1 : Int)))).drew = w1
        rw [show (w.setCell ⟨h, kk, none⟩ (.int .i64 (v0 + -(a1 : Int)))).drewN 1 = w1 from hw1] at E1 O1
        clear hw1 c0 c1 g1
        have c0 := E1.out.c0
        have c1 := E1.out.2.1.cell (kk + 1) (by omega)
        have g1 := E1.out.2.1.frozen (kk + 1)
        rw [show updI f kk (v0 + -(a1 : Int)) (kk + 1) = v1 from (if_neg (by omega)).trans HV.out.2.1] at c1
        go_wp2_with fail
        go_region
        all_goals
          have E2 := Lib.hid ((E1.out.set (kk + 1) (v1 + -(a2 : Int) + -(b1 : Int))).drewN 1)
          have O2 := Lib.hid ((O1.out.set (kk + 1) (.int .i64 (v1 + -(a2 : Int) + -(b1 : Int)))).drewN 1)
          generalize hw2 : (w1.setCell ⟨h, kk + 1, none⟩ (.int .i64 (v1 + -(a2 : Int) + -(b1 : Int)))).drew = w2
          rw [show (w1.setCell ⟨h, kk + 1, none⟩ (.int .i64 (v1 + -(a2 : Int) + -(b1 : Int)))).drewN 1 = w2 from hw2] at E2 O2
          clear hw2 c0 c1 g1
          have c0 := E2.out.c0
          have c1 := E2.out.2.1.cell (kk + 2) (by omega)
          have g1 := E2.out.2.1.frozen (kk + 2)
          rw [show updI (updI f kk (v0 + -(a1 : Int))) (kk + 1) (v1 + -(a2 : Int) + -(b1 : Int)) (kk + 2) = v2 from (if_neg (by omega)).trans ((if_neg (by omega)).trans HV.out.2.2)] at c1
          go_wp2_with fail
          go_region
          all_goals
            have E3 := Lib.hid ((E2.out.set (kk + 2) (v2 + -(b2 : Int))).drewN 1)
            have O3 := Lib.hid ((O2.out.set (kk + 2) (.int .i64 (v2 + -(b2 : Int)))).drewN 1)
            go_wp2
            refine bodyPost_end (results_none rfl _ _ _) rfl ?_
            have ef : updI (updI (updI f kk (v0 + -(a1 : Int))) (kk + 1) (v1 + -(a2 : Int) + -(b1 : Int))) (kk + 2) (v2 + -(b2 : Int)) = put3 f kk (-(a1 : Int)) (-(a2 : Int) + -(b1 : Int)) (-(b2 : Int)) := by
              obtain ⟨i0, i1, i2⟩ := HV.out
              unfold put3
              rw [i0, i1, i2, Int.add_assoc v1]
            rw [ef] at E3
            refine ⟨rfl, _, E3.out, O3.out, ?_, put3_near f kk _ _ _ (by omega) (by omega) (by omega)⟩
            rw [vald_put3 f kk _ _ _ (by omega)]
            exact (parts_num P5.out (vald f 72)).1 (by rw [HG.out]; exact decide_eq_true (by omega))
  · have x1 : (x : Int) / 9223372036854775808 = 0 := by omega
    go_enter Tryz.func19, Tryz.ntmps19
    go_upto_region 12 with (fail)
    · have hP := HPt.out (fr + 4503599627370496) (fld - 1) (by rw [HM.out]; exact if_neg (by omega)) (by rw [HF.out]) (by omega) (by omega) (1) (by rw [HG.out, decide_eq_false (by omega)]; rfl)
      obtain ⟨kk, hkk⟩ : ∃ kk, (fld - 1) / 32 = kk := ⟨_, rfl⟩
      obtain ⟨lo, hlo⟩ : ∃ lo, (fr + 4503599627370496) % 4294967296 * 2 ^ ((fld - 1) % 32) = lo := ⟨_, rfl⟩
      obtain ⟨hi, hhi⟩ : ∃ hi, (fr + 4503599627370496) / 4294967296 * 2 ^ ((fld - 1) % 32) = hi := ⟨_, rfl⟩
      rw [hkk, hlo, hhi] at hP
      have ekk : ((fld : Int) - 1) / 32 = (kk : Int) := by omega
      obtain ⟨p1, p2, p3, p4, p5⟩ := hP
      have elo : IntKind.u64.wrap (((fr : Int) + 4503599627370496) % 4294967296 * 2 ^ ((fld - 1) % 32)) = (lo : Int) := by
        rw [← hlo]
        have : (((fr : Int) + 4503599627370496) % 4294967296 * 2 ^ ((fld - 1) % 32)) = (((fr + 4503599627370496) % 4294967296 * 2 ^ ((fld - 1) % 32) : Nat) : Int) := by simp
        rw [this]
        exact IntWalk.u64_in _ (by omega)
      have ehi : IntKind.u64.wrap (((fr : Int) + 4503599627370496) / 4294967296 * 2 ^ ((fld - 1) % 32)) = (hi : Int) := by
        rw [← hhi]
        have : (((fr : Int) + 4503599627370496) / 4294967296 * 2 ^ ((fld - 1) % 32)) = (((fr + 4503599627370496) / 4294967296 * 2 ^ ((fld - 1) % 32) : Nat) : Int) := by simp
        rw [this]
        exact IntWalk.u64_in _ (by omega)
      obtain ⟨a1, ha1⟩ : ∃ a1, lo % 4294967296 = a1 := ⟨_, rfl⟩
      obtain ⟨a2, ha2⟩ : ∃ a2, lo / 4294967296 = a2 := ⟨_, rfl⟩
      obtain ⟨b1, hb1⟩ : ∃ b1, hi % 4294967296 = b1 := ⟨_, rfl⟩
      obtain ⟨b2, hb2⟩ : ∃ b2, hi / 4294967296 = b2 := ⟨_, rfl⟩
      have ea1 : (lo : Int) % 4294967296 = (a1 : Int) := by omega
      have ea2 : (lo : Int) / 4294967296 = (a2 : Int) := by omega
      have eb1 : (hi : Int) % 4294967296 = (b1 : Int) := by omega
      have eb2 : (hi : Int) / 4294967296 = (b2 : Int) := by omega
      have la : a1 < 4294967296 ∧ a2 < 4294967296 ∧ b1 < 4294967296 ∧ b2 < 4294967296 := by omega
      rw [ha1, ha2, hb1, hb2] at p5
      have P5 := Lib.hid p5
      have q0 := HBd.out kk (by omega)
      have q1 := HBd.out (kk + 1) (by omega)
      have q2 := HBd.out (kk + 2) (by omega)
      obtain ⟨v0, hv0⟩ : ∃ v0, f kk = v0 := ⟨_, rfl⟩
      obtain ⟨v1, hv1⟩ : ∃ v1, f (kk + 1) = v1 := ⟨_, rfl⟩
      obtain ⟨v2, hv2⟩ : ∃ v2, f (kk + 2) = v2 := ⟨_, rfl⟩
      rw [hv0] at q0
      rw [hv1] at q1
      rw [hv2] at q2
      have c1 := HE.out.2.1.cell kk (by omega)
      have g1 := HE.out.2.1.frozen kk
      rw [hv0] at c1
      have s0 : IntKind.i64.wrap (v0 + (1 * (a1 : Int))) = v0 + (1 * (a1 : Int)) := i64_keep _ (by omega)
      have s1 : IntKind.i64.wrap (v1 + (1 * (a2 : Int))) = v1 + (1 * (a2 : Int)) := i64_keep _ (by omega)
      have s2 : IntKind.i64.wrap (v1 + (1 * (a2 : Int)) + (1 * (b1 : Int))) = v1 + (1 * (a2 : Int)) + (1 * (b1 : Int)) := i64_keep _ (by omega)
      have s3 : IntKind.i64.wrap (v2 + (1 * (b2 : Int))) = v2 + (1 * (b2 : Int)) := i64_keep _ (by omega)
      have t1 : IntKind.i64.wrap (a1 : Int) = (a1 : Int) := i64_keep _ (by omega)
      have t2 : IntKind.i64.wrap (a2 : Int) = (a2 : Int) := i64_keep _ (by omega)
      have t3 : IntKind.i64.wrap (b1 : Int) = (b1 : Int) := i64_keep _ (by omega)
      have t4 : IntKind.i64.wrap (b2 : Int) = (b2 : Int) := i64_keep _ (by omega)
      have u1 : IntKind.i64.wrap (1 * (a1 : Int)) = 1 * (a1 : Int) := i64_keep _ (by omega)
      have u2 : IntKind.i64.wrap (1 * (a2 : Int)) = 1 * (a2 : Int) := i64_keep _ (by omega)
      have u3 : IntKind.i64.wrap (1 * (b1 : Int)) = 1 * (b1 : Int) := i64_keep _ (by omega)
      have u4 : IntKind.i64.wrap (1 * (b2 : Int)) = 1 * (b2 : Int) := i64_keep _ (by omega)
      have k1 : IntKind.i64.wrap ((kk : Int) + 1) = ((kk + 1 : Nat) : Int) := i64_keep _ (by omega)
      have k2 : IntKind.i64.wrap ((kk : Int) + 2) = ((kk + 2 : Nat) : Int) := i64_keep _ (by omega)
      clear hkk hlo hhi ha1 ha2 hb1 hb2 p4 p5
      have HV := Lib.hid (show f kk = v0 ∧ f (kk + 1) = v1 ∧ f (kk + 2) = v2 from ⟨hv0, hv1, hv2⟩)
      clear hv0 hv1 hv2
      go_region
      all_goals
        have E1 := Lib.hid ((HE.out.set kk (v0 + (a1 : Int))).drewN 1)
        have O1 := Lib.hid (((Only.refl w h).set kk (.int .i64 (v0 + (a1 : Int)))).drewN 1)
        generalize hw1 : (w.setCell ⟨h, kk, none⟩ (.int .i64 (v0 + (a1 : Int)))).drew = w1
        rw [show (w.setCell ⟨h, kk, none⟩ (.int .i64 (v0 + (a1 : Int)))).drewN 1 = w1 from hw1] at E1 O1
        clear hw1 c0 c1 g1
        have c0 := E1.out.c0
        have c1 := E1.out.2.1.cell (kk + 1) (by omega)
        have g1 := E1.out.2.1.frozen (kk + 1)
        rw [show updI f kk (v0 + (a1 : Int)) (kk + 1) = v1 from (if_neg (by omega)).trans HV.out.2.1] at c1
        go_wp2_with fail
        go_region
        all_goals
          have E2 := Lib.hid ((E1.out.set (kk + 1) (v1 + (a2 : Int) + (b1 : Int))).drewN 1)
          have O2 := Lib.hid ((O1.out.set (kk + 1) (.int .i64 (v1 + (a2 : Int) + (b1 : Int)))).drewN 1)
          generalize hw2 : (w1.setCell ⟨h, kk + 1, none⟩ (.int .i64 (v1 + (a2 : Int) + (b1 : Int)))).drew = w2
          rw [show (w1.setCell ⟨h, kk + 1, none⟩ (.int .i64 (v1 + (a2 : Int) + (b1 : Int)))).drewN 1 = w2 from hw2] at E2 O2
          clear hw2 c0 c1 g1
          have c0 := E2.out.c0
          have c1 := E2.out.2.1.cell (kk + 2) (by omega)
          have g1 := E2.out.2.1.frozen (kk + 2)
          rw [show updI (updI f kk (v0 + (a1 : Int))) (kk + 1) (v1 + (a2 : Int) + (b1 : Int)) (kk + 2) = v2 from (if_neg (by omega)).trans ((if_neg (by omega)).trans HV.out.2.2)] at c1
          go_wp2_with fail
          go_region
          all_goals
            have E3 := Lib.hid ((E2.out.set (kk + 2) (v2 + (b2 : Int))).drewN 1)
            have O3 := Lib.hid ((O2.out.set (kk + 2) (.int .i64 (v2 + (b2 : Int)))).drewN 1)
            go_wp2
            refine bodyPost_end (results_none rfl _ _ _) rfl ?_
            have ef : updI (updI (updI f kk (v0 + (a1 : Int))) (kk + 1) (v1 + (a2 : Int) + (b1 : Int))) (kk + 2) (v2 + (b2 : Int)) = put3 f kk ((a1 : Int)) ((a2 : Int) + (b1 : Int)) ((b2 : Int)) := by
              obtain ⟨i0, i1, i2⟩ := HV.out
              unfold put3
              rw [i0, i1, i2, Int.add_assoc v1]
            rw [ef] at E3
            refine ⟨rfl, _, E3.out, O3.out, ?_, put3_near f kk _ _ _ (by omega) (by omega) (by omega)⟩
            rw [vald_put3 f kk _ _ _ (by omega)]
            exact (parts_num P5.out (vald f 72)).2 (by rw [HG.out]; exact decide_eq_false (by omega))
    · have hP := HPt.out fr fld (by rw [HM.out]; exact if_pos (by omega)) (by rw [HF.out]; omega) (by omega) (by omega) (1) (by rw [HG.out, decide_eq_false (by omega)]; rfl)
      obtain ⟨kk, hkk⟩ : ∃ kk, fld / 32 = kk := ⟨_, rfl⟩
      obtain ⟨lo, hlo⟩ : ∃ lo, fr % 4294967296 * 2 ^ (fld % 32) = lo := ⟨_, rfl⟩
      obtain ⟨hi, hhi⟩ : ∃ hi, fr / 4294967296 * 2 ^ (fld % 32) = hi := ⟨_, rfl⟩
      rw [hkk, hlo, hhi] at hP
      have ekk : (fld : Int) / 32 = (kk : Int) := by omega
      obtain ⟨p1, p2, p3, p4, p5⟩ := hP
      have elo : IntKind.u64.wrap ((fr : Int) % 4294967296 * 2 ^ (fld % 32)) = (lo : Int) := by
        rw [← hlo]
        have : ((fr : Int) % 4294967296 * 2 ^ (fld % 32)) = ((fr % 4294967296 * 2 ^ (fld % 32) : Nat) : Int) := by simp
        rw [this]
        exact IntWalk.u64_in _ (by omega)
      have ehi : IntKind.u64.wrap ((fr : Int) / 4294967296 * 2 ^ (fld % 32)) = (hi : Int) := by
        rw [← hhi]
        have : ((fr : Int) / 4294967296 * 2 ^ (fld % 32)) = ((fr / 4294967296 * 2 ^ (fld % 32) : Nat) : Int) := by simp
        rw [this]
        exact IntWalk.u64_in _ (by omega)
      obtain ⟨a1, ha1⟩ : ∃ a1, lo % 4294967296 = a1 := ⟨_, rfl⟩
      obtain ⟨a2, ha2⟩ : ∃ a2, lo / 4294967296 = a2 := ⟨_, rfl⟩
      obtain ⟨b1, hb1⟩ : ∃ b1, hi % 4294967296 = b1 := ⟨_, rfl⟩
      obtain ⟨b2, hb2⟩ : ∃ b2, hi / 4294967296 = b2 := ⟨_, rfl⟩
      have ea1 : (lo : Int) % 4294967296 = (a1 : Int) := by omega
      have ea2 : (lo : Int) / 4294967296 = (a2 : Int) := by omega
      have eb1 : (hi : Int) % 4294967296 = (b1 : Int) := by omega
      have eb2 : (hi : Int) / 4294967296 = (b2 : Int) := by omega
      have la : a1 < 4294967296 ∧ a2 < 4294967296 ∧ b1 < 4294967296 ∧ b2 < 4294967296 := by omega
      rw [ha1, ha2, hb1, hb2] at p5
      have P5 := Lib.hid p5
      have q0 := HBd.out kk (by omega)
      have q1 := HBd.out (kk + 1) (by omega)
      have q2 := HBd.out (kk + 2) (by omega)
      obtain ⟨v0, hv0⟩ : ∃ v0, f kk = v0 := ⟨_, rfl⟩
      obtain ⟨v1, hv1⟩ : ∃ v1, f (kk + 1) = v1 := ⟨_, rfl⟩
      obtain ⟨v2, hv2⟩ : ∃ v2, f (kk + 2) = v2 := ⟨_, rfl⟩
      rw [hv0] at q0
      rw [hv1] at q1
      rw [hv2] at q2
      have c1 := HE.out.2.1.cell kk (by omega)
      have g1 := HE.out.2.1.frozen kk
      rw [hv0] at c1
      have s0 : IntKind.i64.wrap (v0 + (1 * (a1 : Int))) = v0 + (1 * (a1 : Int)) := i64_keep _ (by omega)
      have s1 : IntKind.i64.wrap (v1 + (1 * (a2 : Int))) = v1 + (1 * (a2 : Int)) := i64_keep _ (by omega)
      have s2 : IntKind.i64.wrap (v1 + (1 * (a2 : Int)) + (1 * (b1 : Int))) = v1 + (1 * (a2 : Int)) + (1 * (b1 : Int)) := i64_keep _ (by omega)
      have s3 : IntKind.i64.wrap (v2 + (1 * (b2 : Int))) = v2 + (1 * (b2 : Int)) := i64_keep _ (by omega)
      have t1 : IntKind.i64.wrap (a1 : Int) = (a1 : Int) := i64_keep _ (by omega)
      have t2 : IntKind.i64.wrap (a2 : Int) = (a2 : Int) := i64_keep _ (by omega)
      have t3 : IntKind.i64.wrap (b1 : Int) = (b1 : Int) := i64_keep _ (by omega)
      have t4 : IntKind.i64.wrap (b2 : Int) = (b2 : Int) := i64_keep _ (by omega)
      have u1 : IntKind.i64.wrap (1 * (a1 : Int)) = 1 * (a1 : Int) := i64_keep _ (by omega)
      have u2 : IntKind.i64.wrap (1 * (a2 : Int)) = 1 * (a2 : Int) := i64_keep _ (by omega)
      have u3 : IntKind.i64.wrap (1 * (b1 : Int)) = 1 * (b1 : Int) := i64_keep _ (by omega)
      have u4 : IntKind.i64.wrap (1 * (b2 : Int)) = 1 * (b2 : Int) := i64_keep _ (by omega)
      have k1 : IntKind.i64.wrap ((kk : Int) + 1) = ((kk + 1 : Nat) : Int) := i64_keep _ (by omega)
      have k2 : IntKind.i64.wrap ((kk : Int) + 2) = ((kk + 2 : Nat) : Int) := i64_keep _ (by omega)
      clear hkk hlo hhi ha1 ha2 hb1 hb2 p4 p5
      have HV := Lib.hid (show f kk = v0 ∧ f (kk + 1) = v1 ∧ f (kk + 2) = v2 from ⟨hv0, hv1, hv2⟩)
      clear hv0 hv1 hv2
      go_region
      all_goals
        have E1 := Lib.hid ((HE.out.set kk (v0 + (a1 : Int))).drewN 1)
        have O1 := Lib.hid (((Only.refl w h).set kk (.int .i64 (v0 + (a1 : Int)))).drewN 1)
        generalize hw1 : (w.setCell ⟨h, kk, none⟩ (.int .i64 (v0 + (a1 : Int)))).drew = w1
        rw [show (w.setCell ⟨h, kk, none⟩ (.int .i64 (v0 + (a1 : Int)))).drewN 1 = w1 from hw1] at E1 O1
        clear hw1 c0 c1 g1
        have c0 := E1.out.c0
        have c1 := E1.out.2.1.cell (kk + 1) (by omega)
        have g1 := E1.out.2.1.frozen (kk + 1)
        rw [show updI f kk (v0 + (a1 : Int)) (kk + 1) = v1 from (if_neg (by omega)).trans HV.out.2.1] at c1
        go_wp2_with fail
        go_region
        all_goals
          have E2 := Lib.hid ((E1.out.set (kk + 1) (v1 + (a2 : Int) + (b1 : Int))).drewN 1)
          have O2 := Lib.hid ((O1.out.set (kk + 1) (.int .i64 (v1 + (a2 : Int) + (b1 : Int)))).drewN 1)
          generalize hw2 : (w1.setCell ⟨h, kk + 1, none⟩ (.int .i64 (v1 + (a2 : Int) + (b1 : Int)))).drew = w2
          rw [show (w1.setCell ⟨h, kk + 1, none⟩ (.int .i64 (v1 + (a2 : Int) + (b1 : Int)))).drewN 1 = w2 from hw2] at E2 O2
          clear hw2 c0 c1 g1
          have c0 := E2.out.c0
          have c1 := E2.out.2.1.cell (kk + 2) (by omega)
          have g1 := E2.out.2.1.frozen (kk + 2)
          rw [show updI (updI f kk (v0 + (a1 : Int))) (kk + 1) (v1 + (a2 : Int) + (b1 : Int)) (kk + 2) = v2 from (if_neg (by omega)).trans ((if_neg (by omega)).trans HV.out.2.2)] at c1
          go_wp2_with fail
          go_region
          all_goals
            have E3 := Lib.hid ((E2.out.set (kk + 2) (v2 + (b2 : Int))).drewN 1)
            have O3 := Lib.hid ((O2.out.set (kk + 2) (.int .i64 (v2 + (b2 : Int)))).drewN 1)
            go_wp2
            refine bodyPost_end (results_none rfl _ _ _) rfl ?_
            have ef : updI (updI (updI f kk (v0 + (a1 : Int))) (kk + 1) (v1 + (a2 : Int) + (b1 : Int))) (kk + 2) (v2 + (b2 : Int)) = put3 f kk ((a1 : Int)) ((a2 : Int) + (b1 : Int)) ((b2 : Int)) := by
              obtain ⟨i0, i1, i2⟩ := HV.out
              unfold put3
              rw [i0, i1, i2, Int.add_assoc v1]
            rw [ef] at E3
            refine ⟨rfl, _, E3.out, O3.out, ?_, put3_near f kk _ _ _ (by omega) (by omega) (by omega)⟩
            rw [vald_put3 f kk _ _ _ (by omega)]
            exact (parts_num P5.out (vald f 72)).2 (by rw [HG.out]; exact decide_eq_false (by omega))
end Go.Proofs.YtmkdcnemocdefaaGreatFmt
