/- The Julian date: what tick.Julian and the reference's IsJulian compute; the law TickJulian's walk. -/
import Derived.Test.YtegnjiecninlaaaDoorGcd
import Derived.Test.YtegnjiecninlaaaDoorBigM
import Derived.Test.YtegnjiecninlaaaDoorCoded1
namespace Go.Proofs.YtegnjiecninlaaaDoor
open Go.RowKit

theorem natAbs_gcd_pos {a b : Int} (hb : 0 < b) : 0 < Int.gcd a b := Int.gcd_pos_of_ne_zero_right a (by omega)
/-- Numerator and denominator over their greatest divisor. -/
theorem lowest {a b : Int} (hb : 0 < b) : ∃ p q g : Int, Int.gcd a b = g ∧ 0 < g ∧ a = g * p ∧ b = g * q ∧ 0 < q ∧ q ≤ b ∧ Int.gcd p q = 1 ∧ a.tdiv g = p ∧ b.tdiv g = q ∧ g ≤ b := by
  have hg := natAbs_gcd_pos (a := a) hb
  obtain ⟨p, hp⟩ := Int.gcd_dvd_left (a := a) (b := b)
  obtain ⟨q, hq⟩ := Int.gcd_dvd_right (a := a) (b := b)
  have hgi : (0 : Int) < (Int.gcd a b : Int) := by omega
  have hq0 : 0 < q := by
    rcases Int.lt_or_le 0 q with c | c
    · exact c
    · have := Int.mul_le_mul_of_nonneg_left c (Int.le_of_lt hgi)
      rw [← hq, Int.mul_zero] at this
      omega
  have hqb : q ≤ b := by
    have := Int.mul_le_mul_of_nonneg_right (show (1 : Int) ≤ (Int.gcd a b : Int) by omega) (Int.le_of_lt hq0)
    rw [← hq, Int.one_mul] at this
    exact this
  have hgb : (Int.gcd a b : Int) ≤ b := by
    have := Int.mul_le_mul_of_nonneg_left (show (1 : Int) ≤ q by omega) (Int.le_of_lt hgi)
    rw [← hq, Int.mul_one] at this
    exact this
  refine ⟨p, q, Int.gcd a b, rfl, hgi, hp, hq, hq0, hqb, ?_, ?_, ?_, hgb⟩
  · have h := Int.gcd_mul_left (Int.gcd a b : Int) p q
    rw [← hp, ← hq] at h
    have h2 : (Int.gcd a b : Int).natAbs = Int.gcd a b := by omega
    rw [h2] at h
    exact Nat.eq_of_mul_eq_mul_left hg (by rw [Nat.mul_one]; exact h.symm)
  · conv => lhs; lhs; rw [hp]
    exact Int.mul_tdiv_cancel_left _ (by omega)
  · conv => lhs; lhs; rw [hq]
    exact Int.mul_tdiv_cancel_left _ (by omega)

/-- The numerator of an instant's Julian date. -/
def julN (t : Int) : Int := 211813444800000000 + t + 32184000

theorem isTime_any (t : Int) (w : World) :
    Calls Tryd.prog 14 #[.int .i64 t] w fun e w' => e = .returned (.bool (goodB t)) ∧ w = w' := by
  by_cases h2 : -300000000000000000 ≤ t
  · by_cases h1 : t ≤ 300000000000000000
    · have e : goodB t = true := by unfold goodB; simp; omega
      rw [e]; clear e
      go_enter Tryd.func14, Tryd.ntmps14
      go_wp2
      go_ret
      exact ⟨rfl, rfl⟩
    · have e : goodB t = false := by unfold goodB; simp; omega
      rw [e]; clear e
      go_enter Tryd.func14, Tryd.ntmps14
      go_wp2
      go_ret
      exact ⟨rfl, rfl⟩
  · have e : goodB t = false := by unfold goodB; simp; omega
    rw [e]; clear e
    go_enter Tryd.func14, Tryd.ntmps14
    go_wp2
    go_ret
    exact ⟨rfl, rfl⟩

theorem isJulian_ok (t p q g : Int) (ht : goodB t = true) (hg : 0 < g) (hp : julN t = g * p) (hq : 86400000000 = g * q) (q1 : 0 < q) (q2 : q ≤ 86400000000) (h1 : Int.gcd p q = 1) (p1 : -600000000000000000 ≤ p ∧ p ≤ 600000000000000000) (w : World) :
    Calls Tryd.prog 16 #[.int .i64 t, .int .i64 p, .int .i64 q] w fun e w' => e = .returned (.bool true) ∧ Below w.heap.size w w' := by
  have htb : -300000000000000000 ≤ t ∧ t ≤ 300000000000000000 := by unfold goodB at ht; simpa using ht
  obtain ⟨n, rfl⟩ : ∃ n : Nat, q = n := ⟨q.toNat, by omega⟩
  have hv : p.natAbs * 86400000000 = (julN t).natAbs * n := by
    have e : (86400000000 : Nat) = g.natAbs * n := by
      have := congrArg Int.natAbs hq
      rw [Int.natAbs_mul] at this
      exact this
    have e2 := congrArg Int.natAbs hp
    rw [Int.natAbs_mul] at e2
    rw [e, e2, Nat.mul_left_comm, Nat.mul_assoc]
  have hs : signF p = signF (julN t) := by
    unfold signF
    rw [hp]
    by_cases c : p < 0
    · rw [if_pos c, if_pos (Int.mul_neg_of_pos_of_neg hg c)]
    · rw [if_neg c, if_neg (Int.not_lt.2 (Int.mul_nonneg (Int.le_of_lt hg) (Int.not_lt.1 c)))]
  have HV := Lib.hid hv
  have HS := Lib.hid hs
  clear hv hs hp hq hg ht
  go_enter Tryd.func16, Tryd.ntmps16
  go_wp2
  go_loopw [7, 8] (fun u v wr => ∃ x y : Int, u = .int .i64 x ∧ v = .int .i64 y ∧ Hid (Int.gcd x y = 1) ∧ (-600000000000000000 ≤ x ∧ x ≤ 600000000000000000) ∧ (-600000000000000000 ≤ y ∧ y ≤ 600000000000000000) ∧ Hid (Below w.heap.size w wr)) (fun _ v _ => (intOf v).natAbs)
  case atStart => exact ⟨p, n, rfl, rfl, h1, p1, by omega, Below.refl _ _⟩
  case round =>
    obtain ⟨x, y, rfl, rfl, hg, hx, hy, hB⟩ := hrel
    clear h1
    by_cases c : y = 0
    · have hz : x = 1 ∨ x = -1 := by have := hg.out; rw [c, Int.gcd_zero_right] at this; omega
      have c0 : (y != 0) = false := by simpa using c
      clear hg hx hy
      have HP := fun W => product_any p 86400000000 p1 (by decide) W
      have HQ := fun W => product_any (julN t) n (by unfold julN; omega) (by omega) W
      have eN : 211813444800000000 + t + 32184000 = julN t := rfl
      have HP := Lib.hid HP
      have HQ := Lib.hid HQ
      have EN := Lib.hid eN
      clear eN
      rcases hz with rfl | rfl
      · go_wp2_with fail
        refine (HP.out _).mono ?_; rintro e w1 ⟨⟨pp, lp, cp, rfl, hN1⟩, hb1⟩
        have HB1 := Lib.hid (below_step hB.out hb1)
        have HN1 := Lib.hid hN1
        clear hb1 hN1
        go_wp2_with fail
        rw [EN.out]
        refine (HQ.out _).mono ?_; rintro e w2 ⟨⟨pq, lq, cq, rfl, hN2⟩, hb2⟩
        have HB2 := Lib.hid (below_step HB1.out hb2)
        have HC := Lib.hid (bigCmp_same (p.natAbs * 86400000000) lp lq pp pq cp cq w2 (HN1.out.below hb2) (by rw [HV.out]; exact hN2))
        rw [HS.out]
        clear hb2 hN2 HN1 HV HS
        generalize signF (julN t) = s
        go_wp2_with fail
        refine HC.out.mono ?_; rintro e w3 ⟨rfl, hb3⟩
        have HB3 := Lib.hid (below_step HB2.out hb3)
        clear hb3 HC
        go_wp2
        go_ret
        exact ⟨rfl, HB3.out⟩
      · go_wp2_with fail
        refine (HP.out _).mono ?_; rintro e w1 ⟨⟨pp, lp, cp, rfl, hN1⟩, hb1⟩
        have HB1 := Lib.hid (below_step hB.out hb1)
        have HN1 := Lib.hid hN1
        clear hb1 hN1
        go_wp2_with fail
        rw [EN.out]
        refine (HQ.out _).mono ?_; rintro e w2 ⟨⟨pq, lq, cq, rfl, hN2⟩, hb2⟩
        have HB2 := Lib.hid (below_step HB1.out hb2)
        have HC := Lib.hid (bigCmp_same (p.natAbs * 86400000000) lp lq pp pq cp cq w2 (HN1.out.below hb2) (by rw [HV.out]; exact hN2))
        rw [HS.out]
        clear hb2 hN2 HN1 HV HS
        generalize signF (julN t) = s
        go_wp2_with fail
        refine HC.out.mono ?_; rintro e w3 ⟨rfl, hb3⟩
        have HB3 := Lib.hid (below_step HB2.out hb3)
        clear hb3 HC
        go_wp2
        go_ret
        exact ⟨rfl, HB3.out⟩
    · have hm := tmod_small x y hx
      have HG := Lib.hid ((gcd_step x y).trans hg.out)
      have HL := Lib.hid (tmod_less x c)
      have c0 : (y != 0) = true := by simpa using c
      have c1 : (y == 0) = false := by simpa using c
      clear hg
      go_wp2
      go_quiet (fail)
      go_wp2
      go_roundw
      case rel => exact ⟨y, x.tmod y, rfl, rfl, HG, hy, hm, below_drewN hB.out _⟩
      case measure => exact HL.out

theorem julian_late (ad : Nat → Addr) (t : Int) (ht : goodB t = false) (w : World) (he : Errs w ad [2]) :
    Calls Tryd.prog 13 #[.int .i64 t] w fun e w' => e = .returned (.tuple #[.int .i64 0, .int .i64 0, errV ad 2]) ∧ Below w.heap.size w w' := by
  have g2 : w.cell? ⟨0, 0, none⟩ = some (.iface 202 (.pointer (some (ad 2)))) := he 2 (by decide)
  clear he
  unfold errV
  go_enter Tryd.func13, Tryd.ntmps13
  go_wp2_with fail
  refine (good_any t _).mono ?_; rintro e w1 ⟨rfl, rfl⟩
  rw [ht]
  go_wp2
  go_quiet (fail)
  go_wp2
  go_ret3
  exact ⟨rfl, below_drewN (Below.refl _ _) _⟩

theorem julian_ok (t p q g : Int) (ht : goodB t = true) (hg : Int.gcd (julN t) 86400000000 = g) (g0 : 0 < g) (hgb : g ≤ 86400000000) (hp : (julN t).tdiv g = p) (hq : (86400000000 : Int).tdiv g = q) (p1 : -600000000000000000 ≤ p ∧ p ≤ 600000000000000000) (q1 : 0 < q) (q2 : q ≤ 86400000000) (w : World) :
    Calls Tryd.prog 13 #[.int .i64 t] w fun e w' => e = .returned (.tuple #[.int .i64 p, .int .i64 q, .nilIface]) ∧ Below w.heap.size w w' := by
  have htb : -300000000000000000 ≤ t ∧ t ≤ 300000000000000000 := by unfold goodB at ht; simpa using ht
  have hN : -600000000000000000 ≤ julN t ∧ julN t ≤ 600000000000000000 := by unfold julN; omega
  have HG := Lib.hid (fun W => gcd_any (julN t) 86400000000 hN (by decide) W)
  rw [hg] at HG
  have EN := Lib.hid (show 211813444800000000 + t + 32184000 = julN t from rfl)
  have EP := Lib.hid hp
  have EQ := Lib.hid (show (86400000000 : Int) / g = q by rw [← hq, Int.tdiv_eq_ediv_of_nonneg (by decide)])
  have gz : (g == 0) = false := by simp; omega
  clear hg hp hq
  go_enter Tryd.func13, Tryd.ntmps13
  go_wp2_with fail
  refine (good_any t _).mono ?_; rintro e w1 ⟨rfl, rfl⟩
  rw [ht]
  go_wp2_with fail
  rw [EN.out]
  generalize julN t = N at *
  refine (HG.out _).mono ?_; rintro e w1 ⟨rfl, hb1⟩
  have HB := Lib.hid hb1
  clear hb1
  go_wp2
  go_quiet (fail)
  go_wp2
  go_ret3
  exact ⟨by rw [← EP.out, ← EQ.out]; rfl, below_drewN HB.out _⟩

theorem julian_first (w : World) :
    Calls Tryd.prog 13 #[.int .i64 (-32184000)] w fun e w' => e = .returned (.tuple #[.int .i64 4903089, .int .i64 2, .nilIface]) ∧ Below w.heap.size w w' :=
  julian_ok (-32184000) 4903089 2 43200000000 (by decide) (by decide +kernel) (by decide) (by decide) (by decide +kernel) (by decide +kernel) (by decide) (by decide) (by decide) w

theorem julianLaw_late (ad : Nat → Addr) (t : Int) (ht : goodB t = false) (w : World) (h : Sents w ad) :
    Calls Tryd.prog 3 #[.int .i64 t] w fun e w' => e = .returned (.bool true) ∧ Below w.heap.size w w' := by
  have HS := Lib.hid h
  have HJ := Lib.hid (fun W (hW : Errs W ad [2]) => julian_late ad t ht W hW)
  have HC := Lib.hid (fun W (hW : Sents W ad) => coded1_err ad 2 3 (by decide) (by decide) W hW)
  unfold errV at HJ HC
  clear h
  go_enter Tryd.func3, Tryd.ntmps3
  go_wp2_with fail
  refine (julian_first _).mono ?_; rintro e w1 ⟨rfl, hb1⟩
  have HB1 := Lib.hid hb1
  clear hb1
  go_wp2_with fail
  refine (HJ.out _ ((HS.out.below HB1.out).errs _ (by decide))).mono ?_; rintro e w2 ⟨rfl, hb2⟩
  have HB2 := Lib.hid (below_step HB1.out hb2)
  clear hb2
  go_wp2_with fail
  refine (isTime_any t _).mono ?_; rintro e w3 ⟨rfl, rfl⟩
  rw [ht]
  go_wp2_with fail
  refine (HC.out _ (HS.out.below HB2.out)).mono ?_; rintro e w3 ⟨rfl, hb3⟩
  have HB3 := Lib.hid (below_step HB2.out hb3)
  clear hb3
  go_wp2
  go_ret
  exact ⟨rfl, HB3.out⟩

theorem julianLaw_ok (t : Int) (ht : goodB t = true) (w : World) :
    Calls Tryd.prog 3 #[.int .i64 t] w fun e w' => e = .returned (.bool true) ∧ Below w.heap.size w w' := by
  obtain ⟨p, q, g, h1, h2, h3, h4, h5, h6, h7, h8, h9, h10⟩ := lowest (a := julN t) (b := 86400000000) (by decide)
  have htb : -300000000000000000 ≤ t ∧ t ≤ 300000000000000000 := by unfold goodB at ht; simpa using ht
  have hp : -600000000000000000 ≤ p ∧ p ≤ 600000000000000000 := by
    have e : (julN t).natAbs = g.natAbs * p.natAbs := by rw [h3, Int.natAbs_mul]
    have h := Nat.mul_le_mul_right p.natAbs (show 1 ≤ g.natAbs by omega)
    rw [← e, Nat.one_mul] at h
    unfold julN at h
    omega
  have HJ := Lib.hid (fun W => julian_ok t p q g ht h1 h2 h10 h8 h9 hp h5 h6 W)
  have HI := Lib.hid (fun W => isJulian_ok t p q g ht h2 h3 h4 h5 h6 h7 hp W)
  clear h1 h2 h3 h4 h5 h6 h7 h8 h9 h10 htb hp
  go_enter Tryd.func3, Tryd.ntmps3
  go_wp2_with fail
  refine (julian_first _).mono ?_; rintro e w1 ⟨rfl, hb1⟩
  have HB1 := Lib.hid hb1
  clear hb1
  go_wp2_with fail
  refine (HJ.out _).mono ?_; rintro e w2 ⟨rfl, hb2⟩
  have HB2 := Lib.hid (below_step HB1.out hb2)
  clear hb2
  go_wp2_with fail
  refine (isTime_any t _).mono ?_; rintro e w3 ⟨rfl, rfl⟩
  rw [ht]
  go_wp2_with fail
  refine (HI.out _).mono ?_; rintro e w3 ⟨rfl, hb3⟩
  have HB3 := Lib.hid (below_step HB2.out hb3)
  clear hb3
  go_wp2
  go_ret
  exact ⟨rfl, HB3.out⟩

theorem julian_law (ad : Nat → Addr) (t : Int) (_ : In64 t) (w : World) (h : Sents w ad) :
    Calls Tryd.prog 3 #[.int .i64 t] w fun e w' => e = .returned (.bool true) ∧ Below w.heap.size w w' := by
  cases ht : goodB t with
  | false => exact julianLaw_late ad t ht w h
  | true => exact julianLaw_ok t ht w
end Go.Proofs.YtegnjiecninlaaaDoor
