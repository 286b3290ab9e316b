/- The angle of a point, as a plain function of the two numbers. No program in sight. -/
import Derived.Test.YtlhfmeekbijhgaaPoly
namespace Go.Proofs.Ytlhfmeekbijhgaa
open Fl

/-- a is at most b. -/
def leqB (a b : Nat) : Bool := Ieee.double.order a b == some .lt || Ieee.double.order a b == some .eq
def predB (u w : Nat) (m : Int) : Bool := leqB (fmul (sinV m) u) (fmul (cosV m) w)
def bisF (u w : Nat) : Nat → Int → Int → Int
  | 0, lo, _ => lo
  | n + 1, lo, hi => if 1 < hi - lo then (if predB u w ((lo + hi) / 2) then bisF u w n ((lo + hi) / 2) hi else bisF u w n lo ((lo + hi) / 2)) else lo
def absF (x : Nat) : Nat := x % 9223372036854775808
def ltZ (x : Nat) : Bool := Ieee.double.order x 0 == some .lt
def eqZ (x : Nat) : Bool := Ieee.double.order x 0 == some .eq
def loF (y x : Nat) : Int := bisF (absF x) (absF y) 40 0 324000000001
/-- The quarter that the point lies in decides. -/
def angV (y x : Nat) : Int := if ltZ x then (if ltZ y then 648000000000 + loF y x else 648000000000 - loF y x) else (if ltZ y then nrmT (1296000000000 - loF y x) else loF y x)
def hasV (y x : Nat) : Bool := isNum x && isNum y && !(eqZ x && eqZ y)
def angF (y x : Nat) : Int × Bool := if hasV y x then (angV y x, true) else (0, false)

theorem bisF_done (u w n : Nat) (lo hi : Int) (h : ¬ 1 < hi - lo) : bisF u w n lo hi = lo := by
  cases n with
  | zero => rfl
  | succ n => unfold bisF; rw [if_neg h]
theorem bisF_bd (u w n : Nat) (lo hi : Int) (h : lo < hi) : lo ≤ bisF u w n lo hi ∧ bisF u w n lo hi < hi := by
  induction n generalizing lo hi with
  | zero => exact ⟨Int.le_refl _, h⟩
  | succ n ih =>
    unfold bisF
    split
    · split
      · have := ih ((lo + hi) / 2) hi (by omega); omega
      · have := ih lo ((lo + hi) / 2) (by omega); omega
    · omega
theorem loF_bd (y x : Nat) : 0 ≤ loF y x ∧ loF y x ≤ 324000000000 := by
  have := bisF_bd (absF x) (absF y) 40 0 324000000001 (by omega)
  unfold loF; omega
theorem ang_one : angF one one = (162000000000, true) ∨ angF one one = (161999999999, true) := by decide +kernel

/-! ### a nought's sign is of no account -/
theorem zero_mul {s z : Nat} (hs : isNum s = true) (hz : z = 0 ∨ z = 9223372036854775808) : ∃ b, Ieee.double.read (fmul s z) = .number b 0 (-1074) := by
  obtain ⟨t, m, p, e⟩ := num_of hs
  have hr : ∃ b, Ieee.double.read z = .number b 0 (-1074) := by
    rcases hz with rfl | rfl
    · exact ⟨false, rfl⟩
    · exact ⟨true, rfl⟩
  obtain ⟨b, hr⟩ := hr
  refine ⟨t ^^ b, ?_⟩
  simp only [fmul, Ieee.Format.mul, e, hr, Ieee.Datum.product, Option.map_some, Option.getD_some, Ieee.Format.write, Nat.mul_zero]
  unfold Ieee.Format.nearest
  rw [if_pos rfl]
  cases t <;> cases b <;> rfl
theorem order_zero_left {a b r : Nat} {s t : Bool} (h : Ieee.double.read a = .number s 0 (-1074)) (g : Ieee.double.read b = .number t 0 (-1074)) : Ieee.double.order a r = Ieee.double.order b r := by
  unfold Ieee.Format.order
  rw [h, g]
  cases Ieee.double.read r with
  | number c n j => cases s <;> cases t <;> simp [Ieee.Datum.order, Ieee.signed]
  | infinity c => rfl
  | nan c f => rfl
theorem order_zero_right {a b r : Nat} {s t : Bool} (h : Ieee.double.read a = .number s 0 (-1074)) (g : Ieee.double.read b = .number t 0 (-1074)) : Ieee.double.order r a = Ieee.double.order r b := by
  unfold Ieee.Format.order
  rw [h, g]
  cases Ieee.double.read r with
  | number c n j => cases s <;> cases t <;> simp [Ieee.Datum.order, Ieee.signed]
  | infinity c => rfl
  | nan c f => rfl

/-- The size of a number, as the reference takes it (a nought may keep its sign). -/
def sizeR (x : Nat) : Nat := if ltZ x then Op.negFloat .f64 x else x
theorem read_parts {x : Nat} {s : Bool} {m : Nat} {p : Int} (h : Ieee.double.read x = .number s m p) :
    s = (x / 9223372036854775808 % 2 == 1) ∧ Ieee.double.read (absF x) = .number false m p ∧ (m = 0 → x % 9223372036854775808 = 0) := by
  have hs : Ieee.double.signWeight = 9223372036854775808 := rfl
  have hb : Ieee.double.binade = 4503599627370496 := rfl
  have hl : x % 9223372036854775808 / 9223372036854775808 = 0 := Nat.div_eq_of_lt (Nat.mod_lt _ (by omega))
  have hm : x % 9223372036854775808 % 9223372036854775808 = x % 9223372036854775808 := Nat.mod_mod _ _
  have hf : (0 % 2 == 1) = false := rfl
  unfold Ieee.Format.read absF at *
  rw [hs] at h ⊢
  simp only [hl, hm, hf]
  simp only at h
  split at h
  · rename_i c
    rw [if_pos c]
    simp only [Ieee.Datum.number.injEq] at h
    refine ⟨h.1.symm, by rw [h.2.1, h.2.2], fun e => by rw [h.2.1]; exact e⟩
  · rename_i c
    rw [if_neg c]
    split at h
    · rename_i d
      rw [if_pos d]
      simp only [Ieee.Datum.number.injEq] at h
      refine ⟨h.1.symm, by rw [h.2.1, h.2.2], fun e => ?_⟩
      exfalso
      have := h.2.1
      rw [hb] at this
      omega
    · split at h <;> cases h
theorem rv_zero : rv 0 = 0 := by decide +kernel
theorem zero_num : isNum 0 = true := by decide +kernel
theorem ltZ_iff {x : Nat} (hx : isNum x = true) : ltZ x = true ↔ rv x < 0 := by
  unfold ltZ
  rw [order_rv hx zero_num, rv_zero]
  by_cases h : rv x < 0
  · simp [h]
  · by_cases g : rv x = 0
    · simp [g]
    · simp [h, g]
theorem eqZ_iff {x : Nat} (hx : isNum x = true) : eqZ x = true ↔ rv x = 0 := by
  unfold eqZ
  rw [order_rv hx zero_num, rv_zero]
  by_cases h : rv x < 0
  · have : ¬ rv x = 0 := by intro e; rw [e] at h; exact Rat.lt_irrefl h
    simp [h, this]
  · by_cases g : rv x = 0
    · simp [g]
    · simp [h, g]
theorem size_cases {x : Nat} (hx : isNum x = true) (hw : x < 18446744073709551616) : sizeR x = absF x ∨ (absF x = 0 ∧ sizeR x = 9223372036854775808) := by
  obtain ⟨s, m, p, e⟩ := num_of hx
  obtain ⟨h1, h2, h3⟩ := read_parts e
  have hrv : rv x = (if s then -(m : Rat) else (m : Rat)) * (2 : Rat) ^ p := by unfold rv; rw [e]; rfl
  have hP := p2_pos p
  unfold sizeR
  by_cases hl : ltZ x = true
  · left
    rw [if_pos hl]
    have h := (ltZ_iff hx).1 hl
    have hst : s = true := by
      cases s with
      | true => rfl
      | false =>
        exfalso
        simp only [Bool.false_eq_true, if_false] at hrv
        have := Rat.mul_nonneg (Rat.natCast_nonneg (a := m)) (Rat.le_of_lt hP)
        rw [hrv] at h
        grind
    rw [hst] at h1
    have n := neg_parts x
    rw [← h1] at n
    have hlt : fneg x < 2 ^ 64 := Nat.xor_lt_two_pow (show x < 2 ^ 64 from hw) (show (2 : Nat) ^ 63 < 2 ^ 64 by decide)
    have h0 := n.2
    simp at h0
    have e1 := n.1
    unfold absF
    show fneg x = _
    omega
  · rw [if_neg hl]
    have h : ¬ rv x < 0 := fun g => hl ((ltZ_iff hx).2 g)
    cases s with
    | false =>
      left
      simp at h1
      unfold absF
      omega
    | true =>
      right
      simp at h1
      have hm0 : m = 0 := by
        rcases Nat.eq_zero_or_pos m with g | g
        · exact g
        · exfalso
          apply h
          have gm : (0 : Rat) < (m : Rat) := Rat.natCast_pos.2 g
          have := Rat.mul_pos gm hP
          rw [hrv]
          simp only [if_true]
          grind
      have := h3 hm0
      unfold absF
      omega
theorem predB_size {x y : Nat} (hx : isNum x = true) (hy : isNum y = true) (hxw : x < 18446744073709551616) (hyw : y < 18446744073709551616) (m : Int) :
    predB (sizeR x) (sizeR y) m = predB (absF x) (absF y) m := by
  have hs := (sinV_sz m).1
  have hc := (cosV_sz m).1
  have e1 : ∀ r, Ieee.double.order (fmul (sinV m) (sizeR x)) r = Ieee.double.order (fmul (sinV m) (absF x)) r := by
    intro r
    rcases size_cases hx hxw with h | ⟨h1, h2⟩
    · rw [h]
    · rw [h1, h2]
      obtain ⟨b, hb⟩ := zero_mul hs (z := 9223372036854775808) (Or.inr rfl)
      obtain ⟨d, hd⟩ := zero_mul hs (z := 0) (Or.inl rfl)
      exact order_zero_left hb hd
  have e2 : ∀ r, Ieee.double.order r (fmul (cosV m) (sizeR y)) = Ieee.double.order r (fmul (cosV m) (absF y)) := by
    intro r
    rcases size_cases hy hyw with h | ⟨h1, h2⟩
    · rw [h]
    · rw [h1, h2]
      obtain ⟨b, hb⟩ := zero_mul hc (z := 9223372036854775808) (Or.inr rfl)
      obtain ⟨d, hd⟩ := zero_mul hc (z := 0) (Or.inl rfl)
      exact order_zero_right hb hd
  unfold predB leqB
  rw [e1, e2]
theorem abs_num {x : Nat} (hx : isNum x = true) : isNum (absF x) = true := by
  obtain ⟨s, m, p, e⟩ := num_of hx
  exact isNum_of (read_parts e).2.1
theorem size_num {x : Nat} (hx : isNum x = true) : isNum (sizeR x) = true := by
  unfold sizeR
  split
  · exact (neg_rv hx).1
  · exact hx
end Go.Proofs.Ytlhfmeekbijhgaa
