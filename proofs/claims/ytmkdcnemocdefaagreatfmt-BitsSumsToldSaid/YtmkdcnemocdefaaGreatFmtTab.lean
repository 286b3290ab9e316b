/- Small laws on worlds. -/
import Derived.Test.YtmkdcnemocdefaaGreatFmtRows
import Derived.WalkKit
import Derived.Handy
import Derived.Lib.Hide
import Derived.Deep.QuietTactic
import Derived.BigQuiet
import Derived.WalkLawsBesides
import Derived.Deep.RegionHeld3
namespace Go.Proofs.YtmkdcnemocdefaaGreatFmt
open Go.RowKit

def In64 (a : Int) : Prop := -9223372036854775808 ≤ a ∧ a ≤ 9223372036854775807
theorem wf_in64 {a : Int} (h : (Lit.int .i64 a).wf = true) : In64 a := by
  unfold In64; simp [Lit.wf] at h; exact h
theorem below_drewN {B : Nat} {w w' : World} (h : Below B w w') (n : Nat) : Below B w (w'.drewN n) := by
  induction n with
  | zero => exact h
  | succ n ih => exact ih.drew
theorem below_step {a b c : World} (h : Below a.heap.size a b) (k : Below b.heap.size b c) : Below a.heap.size a c := h.trans (k.mono h.size)
theorem cell_lt {w : World} {b o : Nat} {v : Value} (h : w.cell? ⟨b, o, none⟩ = some v) : b < w.heap.size := by
  rcases Nat.lt_or_ge b w.heap.size with g | g
  · exact g
  · simp [World.cell?, Array.getElem?_eq_none g] at h
end Go.Proofs.YtmkdcnemocdefaaGreatFmt

namespace Go.Proofs.YtmkdcnemocdefaaGreatFmt

/-- The number of the first n words. -/
def num (f : Nat → Nat) : Nat → Nat
  | 0 => 0
  | n + 1 => num f n + f n * 2 ^ (64 * n)
/-- Every one of the first n is a word. -/
def Wds (f : Nat → Nat) (n : Nat) : Prop := ∀ i, i < n → f i < 2 ^ 64

theorem Wds.le {f : Nat → Nat} {n m : Nat} (h : Wds f n) (hm : m ≤ n) : Wds f m := fun i hi => h i (by omega)
theorem p64 (n : Nat) : 2 ^ (64 * (n + 1)) = 2 ^ 64 * 2 ^ (64 * n) := by
  rw [show 64 * (n + 1) = 64 + 64 * n by omega, Nat.pow_add]
theorem num_lt {f : Nat → Nat} : ∀ {n : Nat}, Wds f n → num f n < 2 ^ (64 * n)
  | 0, _ => by simp [num]
  | n + 1, h => by
    have i := num_lt (h.le (Nat.le_succ n))
    have t := h n (by omega)
    have m := Nat.mul_le_mul_right (2 ^ (64 * n)) (Nat.le_sub_one_of_lt t)
    rw [Nat.sub_mul, Nat.one_mul] at m
    have q := Nat.mul_le_mul_right (2 ^ (64 * n)) (Nat.one_le_two_pow (n := 64))
    rw [Nat.one_mul] at q
    rw [num, p64]
    omega
theorem num_congr {f g : Nat → Nat} : ∀ {n : Nat}, (∀ i, i < n → f i = g i) → num f n = num g n
  | 0, _ => rfl
  | n + 1, h => by rw [num, num, num_congr (fun i hi => h i (by omega)), h n (by omega)]
theorem num_add (f : Nat → Nat) (a : Nat) : ∀ b, num f (a + b) = num f a + 2 ^ (64 * a) * num (fun i => f (a + i)) b
  | 0 => by simp [num]
  | b + 1 => by
    rw [← Nat.add_assoc, num, num_add f a b, num, Nat.mul_add 64 a b, Nat.pow_add, Nat.mul_add]
    have : f (a + b) * (2 ^ (64 * a) * 2 ^ (64 * b)) = 2 ^ (64 * a) * (f (a + b) * 2 ^ (64 * b)) := by
      rw [← Nat.mul_assoc, Nat.mul_comm (f (a + b)), Nat.mul_assoc]
    omega
theorem num_zero {f : Nat → Nat} : ∀ {n : Nat}, (∀ i, i < n → f i = 0) → num f n = 0
  | 0, _ => rfl
  | n + 1, h => by rw [num, num_zero (fun i hi => h i (by omega)), h n (by omega)]; simp
/-- Noughts at the top count for nothing. -/
theorem num_top {f : Nat → Nat} {n k : Nat} (hk : k ≤ n) (h : ∀ j, k ≤ j → j < n → f j = 0) : num f n = num f k := by
  obtain ⟨b, rfl⟩ : ∃ b, n = k + b := ⟨n - k, by omega⟩
  rw [num_add, num_zero (fun i hi => h (k + i) (by omega) (by omega))]
  simp
/-- One step of an addition. -/
theorem num_step (x y z : Nat → Nat) (i c : Nat) (h : num z i + c * 2 ^ (64 * i) = num x i + num y i) (hz : z i = (x i + y i + c) % 2 ^ 64) :
    num z (i + 1) + (x i + y i + c) / 2 ^ 64 * 2 ^ (64 * (i + 1)) = num x (i + 1) + num y (i + 1) := by
  rw [num, num, num, p64, hz]
  have d := Nat.mod_add_div (x i + y i + c) (2 ^ 64)
  generalize (x i + y i + c) % 2 ^ 64 = r at *
  generalize (x i + y i + c) / 2 ^ 64 = q at *
  have e : r * 2 ^ (64 * i) + q * (2 ^ 64 * 2 ^ (64 * i)) = (x i + y i + c) * 2 ^ (64 * i) := by
    rw [← d, Nat.add_mul, ← Nat.mul_assoc, Nat.mul_comm q]
  rw [Nat.add_mul, Nat.add_mul] at e
  omega
/-- One step of a subtraction: b is what was borrowed. -/
theorem num_sub_step (x y z : Nat → Nat) (i b d : Nat) (h : num z i + num y i = num x i + b * 2 ^ (64 * i)) (hz : z i + y i + b = x i + d * 2 ^ 64) :
    num z (i + 1) + num y (i + 1) = num x (i + 1) + d * 2 ^ (64 * (i + 1)) := by
  rw [num, num, num, p64]
  have e : (z i + y i + b) * 2 ^ (64 * i) = (x i + d * 2 ^ 64) * 2 ^ (64 * i) := by rw [hz]
  rw [Nat.add_mul, Nat.add_mul, Nat.add_mul, Nat.mul_assoc] at e
  omega
/-- What is carried into word i by a shift to the left. -/
def shc (x : Nat → Nat) (s i : Nat) : Nat := if i = 0 then 0 else x (i - 1) / 2 ^ (64 - s)
theorem shl_div (a s : Nat) (hs : s ≤ 64) : a * 2 ^ s / 2 ^ 64 = a / 2 ^ (64 - s) := by
  rw [show (2 : Nat) ^ 64 = 2 ^ (64 - s) * 2 ^ s by rw [← Nat.pow_add]; congr 1; omega]
  exact Nat.mul_div_mul_right _ _ (Nat.two_pow_pos s)
/-- A row shifted to the left by less than a word. -/
theorem num_shl (x z : Nat → Nat) (s : Nat) (hs : s ≤ 64) : ∀ n, (∀ i, i < n → z i = x i * 2 ^ s % 2 ^ 64 + shc x s i) → num z n + shc x s n * 2 ^ (64 * n) = num x n * 2 ^ s
  | 0, _ => by simp [num, shc]
  | n + 1, h => by
    have i := num_shl x z s hs n (fun i hi => h i (by omega))
    rw [num, num, h n (by omega), p64]
    have e : shc x s (n + 1) = x n * 2 ^ s / 2 ^ 64 := by rw [shl_div _ _ hs]; rfl
    rw [e]
    have d := Nat.mod_add_div (x n * 2 ^ s) (2 ^ 64)
    generalize x n * 2 ^ s % 2 ^ 64 = r at *
    generalize x n * 2 ^ s / 2 ^ 64 = q at *
    have f : (x n * 2 ^ (64 * n)) * 2 ^ s = r * 2 ^ (64 * n) + q * (2 ^ 64 * 2 ^ (64 * n)) := by
      rw [Nat.mul_right_comm, ← d, Nat.add_mul, ← Nat.mul_assoc, Nat.mul_comm q]
    rw [Nat.add_mul, Nat.add_mul, f]
    omega
/-- The words of a shift are words. -/
theorem shl_word (x : Nat → Nat) (s i : Nat) (hs : s ≤ 64) (h : ∀ j, j ≤ i → x j < 2 ^ 64) : x i * 2 ^ s % 2 ^ 64 + shc x s i < 2 ^ 64 := by
  have e : (2 : Nat) ^ 64 = 2 ^ s * 2 ^ (64 - s) := by rw [← Nat.pow_add]; congr 1; omega
  have c : shc x s i < 2 ^ s := by
    unfold shc
    split
    · exact Nat.two_pow_pos s
    · rw [Nat.div_lt_iff_lt_mul (Nat.two_pow_pos _), ← e]; exact h (i - 1) (by omega)
  have d : x i * 2 ^ s % 2 ^ 64 = (x i % 2 ^ (64 - s)) * 2 ^ s := by rw [e, Nat.mul_comm (2 ^ s), Nat.mul_mod_mul_right]
  have m := Nat.mod_lt (x i) (Nat.two_pow_pos (64 - s))
  rw [d, e, Nat.mul_comm (2 ^ s)]
  generalize x i % 2 ^ (64 - s) = a at *
  have q := Nat.mul_le_mul_right (2 ^ s) m
  rw [Nat.succ_mul] at q
  omega
/-- A word is set. -/
def upd (f : Nat → Nat) (i v : Nat) : Nat → Nat := fun j => if j = i then v else f j
theorem upd_same (f : Nat → Nat) (i v : Nat) : upd f i v i = v := if_pos rfl
theorem upd_far (f : Nat → Nat) (i v j : Nat) (h : j ≠ i) : upd f i v j = f j := if_neg h
end Go.Proofs.YtmkdcnemocdefaaGreatFmt

namespace Go.Proofs.YtmkdcnemocdefaaGreatFmt

/-- A quotient with its rest, to the nearest, from the middle to the even one. -/
def nearest (q r d : Nat) : Nat := if d < 2 * r ∨ (2 * r = d ∧ q % 2 = 1) then q + 1 else q
/-- The lowest place that a double holds of a number of smallest units. -/
def lowOf (S : Nat) : Nat := Nat.log2 S - 52
/-- The word of the double next to S smallest units. -/
def rndW (S : Nat) : Nat :=
  let n := nearest (S / 2 ^ lowOf S) (S % 2 ^ lowOf S) (2 ^ lowOf S) + lowOf S * 2 ^ 52
  if 2047 * 2 ^ 52 ≤ n then 2047 * 2 ^ 52 else n

/-- A mantissa of L bits that stands for S units: N * 2^E = S * 2^L. What is left of p bits, and the rest, is the same for both. -/
theorem cut_eq {N S E L p : Nat} (h : N * 2 ^ E = S * 2 ^ L) (hp : p ≤ E) (hL : p ≤ L) :
    N / 2 ^ (L - p) = S / 2 ^ (E - p) ∧ (N % 2 ^ (L - p)) * 2 ^ E = (S % 2 ^ (E - p)) * 2 ^ L := by
  have eE : (2 : Nat) ^ E = 2 ^ (E - p) * 2 ^ p := by rw [← Nat.pow_add]; congr 1; omega
  have eL : (2 : Nat) ^ L = 2 ^ (L - p) * 2 ^ p := by rw [← Nat.pow_add]; congr 1; omega
  have hp0 : 0 < (2 : Nat) ^ p := Nat.two_pow_pos p
  have hE0 : 0 < (2 : Nat) ^ (E - p) := Nat.two_pow_pos _
  have hL0 : 0 < (2 : Nat) ^ (L - p) := Nat.two_pow_pos _
  have k : N * 2 ^ (E - p) = S * 2 ^ (L - p) := by
    rw [eE, eL, ← Nat.mul_assoc, ← Nat.mul_assoc] at h
    exact Nat.eq_of_mul_eq_mul_right hp0 h
  generalize (2 : Nat) ^ (E - p) = a at *
  generalize (2 : Nat) ^ (L - p) = b at *
  have q : N / b = S / a := by
    have e1 : N / b = N * a / (b * a) := (Nat.mul_div_mul_right N b hE0).symm
    have e2 : S / a = S * b / (a * b) := (Nat.mul_div_mul_right S a hL0).symm
    rw [e1, e2, k, Nat.mul_comm a b]
  refine ⟨q, ?_⟩
  have dN := Nat.mod_add_div N b
  have dS := Nat.mod_add_div S a
  rw [q] at dN
  have r : (N % b) * a = (S % a) * b := by
    have h1 : (N % b + b * (S / a)) * a = (S % a + a * (S / a)) * b := by rw [dN, dS]; exact k
    rw [Nat.add_mul, Nat.add_mul] at h1
    have h2 : b * (S / a) * a = a * (S / a) * b := by
      rw [Nat.mul_right_comm, Nat.mul_comm b a, Nat.mul_assoc, Nat.mul_assoc, Nat.mul_comm b]
    omega
  rw [eE, eL, ← Nat.mul_assoc, ← Nat.mul_assoc, r]

/-- So both are rounded alike. -/
theorem cut_nearest {N S E L p : Nat} (h : N * 2 ^ E = S * 2 ^ L) (hp : p ≤ E) (hL : p ≤ L) :
    nearest (N / 2 ^ (L - p)) (N % 2 ^ (L - p)) (2 ^ (L - p)) = nearest (S / 2 ^ (E - p)) (S % 2 ^ (E - p)) (2 ^ (E - p)) := by
  have ⟨q, r⟩ := cut_eq h hp hL
  have eE : (2 : Nat) ^ E = 2 ^ (E - p) * 2 ^ p := by rw [← Nat.pow_add]; congr 1; omega
  have eL : (2 : Nat) ^ L = 2 ^ (L - p) * 2 ^ p := by rw [← Nat.pow_add]; congr 1; omega
  have hp0 : 0 < (2 : Nat) ^ p := Nat.two_pow_pos p
  have hE0 : 0 < (2 : Nat) ^ (E - p) := Nat.two_pow_pos _
  have hL0 : 0 < (2 : Nat) ^ (L - p) := Nat.two_pow_pos _
  rw [eE, eL, ← Nat.mul_assoc, ← Nat.mul_assoc] at r
  have r' := Nat.eq_of_mul_eq_mul_right hp0 r
  rw [q]
  clear h hp hL q r eE eL hp0
  generalize N % 2 ^ (L - p) = x at *
  generalize S % 2 ^ (E - p) = y at *
  generalize S / 2 ^ (E - p) = Q at *
  generalize (2 : Nat) ^ (E - p) = a at *
  generalize (2 : Nat) ^ (L - p) = b at *
  have lt : b < 2 * x ↔ a < 2 * y := by
    rw [← Nat.mul_lt_mul_right hE0, ← Nat.mul_lt_mul_right (a := b) (b := a) hL0, Nat.mul_assoc, r', ← Nat.mul_assoc, Nat.mul_comm b a]
  have eq : 2 * x = b ↔ 2 * y = a := by
    constructor
    · intro e
      refine Nat.eq_of_mul_eq_mul_right hL0 ?_
      rw [Nat.mul_assoc, ← r', ← Nat.mul_assoc, e, Nat.mul_comm]
    · intro e
      refine Nat.eq_of_mul_eq_mul_right hE0 ?_
      rw [Nat.mul_assoc, r', ← Nat.mul_assoc, e, Nat.mul_comm]
  unfold nearest
  simp only [lt, eq]

/-- A normalized mantissa: how many bits the number has. -/
theorem size_of {N S E L : Nat} (h : N * 2 ^ E = S * 2 ^ L) (lo : 2 ^ L ≤ 2 * N) (hi : N < 2 ^ L) : 2 ^ E ≤ 2 * S ∧ S < 2 ^ E := by
  have hL0 : 0 < (2 : Nat) ^ L := Nat.two_pow_pos _
  have hE0 : 0 < (2 : Nat) ^ E := Nat.two_pow_pos _
  constructor
  · refine Nat.le_of_mul_le_mul_right ?_ hL0
    rw [Nat.mul_assoc, ← h, ← Nat.mul_assoc, Nat.mul_comm]
    exact Nat.mul_le_mul_right _ lo
  · refine Nat.lt_of_mul_lt_mul_right (a := 2 ^ L) ?_
    rw [← h, Nat.mul_comm (2 ^ E)]
    exact Nat.mul_lt_mul_of_pos_right hi hE0
theorem log2_of {S E : Nat} (lo : 2 ^ E ≤ 2 * S) (hi : S < 2 ^ E) : Nat.log2 S + 1 = E := by
  have hS : S ≠ 0 := by
    intro e; subst e
    have : 0 < (2 : Nat) ^ E := Nat.two_pow_pos _
    omega
  have h1 := (Nat.log2_lt hS).2 hi
  obtain ⟨k, rfl⟩ : ∃ k, E = k + 1 := ⟨E - 1, by omega⟩
  have h2 := (Nat.le_log2 hS (k := k)).2 (by rw [Nat.pow_succ] at lo; omega)
  omega
/-- The rounding by its bits: the half's bit, and whether anything lies below it. -/
theorem near_bits (q r k : Nat) (h : r < 2 ^ (k + 1)) :
    nearest q r (2 ^ (k + 1)) = if r / 2 ^ k = 1 ∧ (r % 2 ^ k ≠ 0 ∨ q % 2 = 1) then q + 1 else q := by
  have d := Nat.mod_add_div r (2 ^ k)
  have m := Nat.mod_lt r (Nat.two_pow_pos k)
  rw [Nat.pow_succ] at *
  generalize (2 : Nat) ^ k = c at *
  have hq : r / c < 2 := by
    rw [Nat.div_lt_iff_lt_mul (by omega)]
    omega
  generalize r % c = a at *
  unfold nearest
  rcases Nat.lt_or_ge (r / c) 1 with h0 | h0
  · have e : r / c = 0 := Nat.lt_one_iff.1 h0
    rw [e] at d ⊢
    rw [if_neg (by omega), if_neg (by omega)]
  · have e : r / c = 1 := Nat.le_antisymm (Nat.le_of_lt_succ hq) h0
    rw [e] at d ⊢
    have i : (c * 2 < 2 * r ∨ 2 * r = c * 2 ∧ q % 2 = 1) ↔ (1 = 1 ∧ (a ≠ 0 ∨ q % 2 = 1)) := by omega
    simp only [i]
theorem near_none (q : Nat) : nearest q 0 1 = q := by simp [nearest]
theorem nearest_le (q r d : Nat) : nearest q r d ≤ q + 1 := by unfold nearest; split <;> omega
theorem le_nearest (q r d : Nat) : q ≤ nearest q r d := by unfold nearest; split <;> omega
/-- A number of at most 53 bits is its own word. -/
theorem rnd_small (S E : Nat) (hE : Nat.log2 S + 1 = E) (h : E ≤ 53) (hS : S < 2 ^ E) : rndW S = S := by
  have e : lowOf S = 0 := by unfold lowOf; omega
  have l : S < 2 ^ 53 := Nat.lt_of_lt_of_le hS (Nat.pow_le_pow_right (by decide) h)
  unfold rndW
  rw [e]
  simp only [Nat.pow_zero, Nat.div_one, Nat.mod_one, near_none, Nat.zero_mul, Nat.add_zero]
  rw [if_neg (by omega)]
/-- A longer one: its 53 bits, rounded. -/
theorem rnd_big (S E q : Nat) (hE : Nat.log2 S + 1 = E) (h : 53 ≤ E) (lo : 2 ^ E ≤ 2 * S) (hi : S < 2 ^ E) (hq : q = nearest (S / 2 ^ (E - 53)) (S % 2 ^ (E - 53)) (2 ^ (E - 53))) :
    2 ^ 52 ≤ q ∧ q ≤ 2 ^ 53 ∧ rndW S = if 2047 * 2 ^ 52 ≤ q + (E - 53) * 2 ^ 52 then 2047 * 2 ^ 52 else q + (E - 53) * 2 ^ 52 := by
  have e : lowOf S = E - 53 := by unfold lowOf; omega
  have hp : 0 < (2 : Nat) ^ (E - 53) := Nat.two_pow_pos _
  have eE : (2 : Nat) ^ E = 2 ^ 53 * 2 ^ (E - 53) := by rw [← Nat.pow_add]; congr 1; omega
  have a : 2 ^ 52 ≤ S / 2 ^ (E - 53) := by
    rw [Nat.le_div_iff_mul_le hp]
    rw [eE] at lo
    omega
  have b : S / 2 ^ (E - 53) < 2 ^ 53 := by
    rw [Nat.div_lt_iff_lt_mul hp, ← eE]
    exact hi
  have c := nearest_le (S / 2 ^ (E - 53)) (S % 2 ^ (E - 53)) (2 ^ (E - 53))
  have d := le_nearest (S / 2 ^ (E - 53)) (S % 2 ^ (E - 53)) (2 ^ (E - 53))
  refine ⟨by omega, by omega, ?_⟩
  unfold rndW
  rw [e, ← hq]
end Go.Proofs.YtmkdcnemocdefaaGreatFmt

namespace Go.Proofs.YtmkdcnemocdefaaGreatFmt

/-- What the first n digits stand for. -/
def vald (f : Nat → Int) : Nat → Int
  | 0 => 0
  | n + 1 => vald f n + f n * 2 ^ (32 * n)
theorem p32 (n : Nat) : (2 : Int) ^ (32 * (n + 1)) = 4294967296 * 2 ^ (32 * n) := by
  rw [show 32 * (n + 1) = 32 + 32 * n by omega, Int.pow_add]
  rfl
theorem p32_pos (n : Nat) : (0 : Int) < 2 ^ (32 * n) := Int.pow_pos (by decide)
theorem vald_congr {f g : Nat → Int} : ∀ {n : Nat}, (∀ i, i < n → f i = g i) → vald f n = vald g n
  | 0, _ => rfl
  | n + 1, h => by rw [vald, vald, vald_congr (fun i hi => h i (by omega)), h n (by omega)]
theorem vald_zero : ∀ n, vald (fun _ => 0) n = 0
  | 0 => rfl
  | n + 1 => by rw [vald, vald_zero n]; simp
/-- A number added to one digit. -/
theorem vald_upd (f : Nat → Int) (k : Nat) (d : Int) : ∀ n, k < n → vald (fun i => if i = k then f i + d else f i) n = vald f n + d * 2 ^ (32 * k)
  | 0, h => by omega
  | n + 1, h => by
    rw [vald, vald]
    rcases Nat.lt_or_ge k n with g | g
    · rw [vald_upd f k d n g, if_neg (by omega)]
      omega
    · obtain rfl : n = k := by omega
      rw [if_pos rfl, vald_congr (g := f) (fun i hi => if_neg (by omega)), Int.add_mul]
      omega
/-- One step of levelling. -/
theorem level_step (f g : Nat → Int) (i : Nat) (c : Int) (h : vald g i + c * 2 ^ (32 * i) = vald f i) (hg : g i = (f i + c) % 4294967296) :
    vald g (i + 1) + (f i + c) / 4294967296 * 2 ^ (32 * (i + 1)) = vald f (i + 1) := by
  rw [vald, vald, p32, hg]
  have d := Int.emod_add_mul_ediv (f i + c) 4294967296
  have e : ((f i + c) % 4294967296 + 4294967296 * ((f i + c) / 4294967296)) * 2 ^ (32 * i) = (f i + c) * 2 ^ (32 * i) := by rw [d]
  rw [Int.add_mul, Int.add_mul, Int.mul_assoc, Int.mul_left_comm] at e
  rw [Int.mul_left_comm]
  rw [Int.mul_left_comm] at e
  omega
/-- One step of turning a number that is below nought. -/
theorem turn_step (h g : Nat → Int) (i : Nat) (c : Int) (H : vald g i + c * 2 ^ (32 * i) + vald h i = 2 ^ (32 * i)) (hg : g i = (4294967295 - h i + c) % 4294967296) :
    vald g (i + 1) + (4294967295 - h i + c) / 4294967296 * 2 ^ (32 * (i + 1)) + vald h (i + 1) = 2 ^ (32 * (i + 1)) := by
  rw [vald, vald, p32, hg]
  have d := Int.emod_add_mul_ediv (4294967295 - h i + c) 4294967296
  have e : ((4294967295 - h i + c) % 4294967296 + 4294967296 * ((4294967295 - h i + c) / 4294967296)) * 2 ^ (32 * i) = (4294967295 - h i + c) * 2 ^ (32 * i) := by rw [d]
  rw [Int.add_mul, Int.add_mul, Int.sub_mul, Int.mul_assoc] at e
  rw [Int.mul_left_comm]
  omega
/-- Levelled digits. -/
theorem vald_range {g : Nat → Int} : ∀ {n : Nat}, (∀ i, i < n → 0 ≤ g i ∧ g i < 4294967296) → 0 ≤ vald g n ∧ vald g n < 2 ^ (32 * n)
  | 0, _ => by simp [vald]
  | n + 1, h => by
    have i := vald_range (n := n) (fun i hi => h i (by omega))
    have t := h n (by omega)
    have p := p32_pos n
    have m1 := Int.mul_le_mul_of_nonneg_right (show g n ≤ 4294967295 by omega) (Int.le_of_lt p)
    have m2 := Int.mul_nonneg t.1 (Int.le_of_lt p)
    rw [vald, p32]
    omega
/-- What the first n levelled digits stand for. -/
def numd (f : Nat → Nat) : Nat → Nat
  | 0 => 0
  | n + 1 => numd f n + f n * 2 ^ (32 * n)
theorem numd_lt {f : Nat → Nat} : ∀ {n : Nat}, (∀ i, i < n → f i < 2 ^ 32) → numd f n < 2 ^ (32 * n)
  | 0, _ => by simp [numd]
  | n + 1, h => by
    have i := numd_lt (n := n) (fun i hi => h i (by omega))
    have t := h n (by omega)
    have m := Nat.mul_le_mul_right (2 ^ (32 * n)) (Nat.le_sub_one_of_lt t)
    rw [Nat.sub_mul, Nat.one_mul] at m
    have q := Nat.mul_le_mul_right (2 ^ (32 * n)) (Nat.one_le_two_pow (n := 32))
    rw [Nat.one_mul] at q
    rw [numd, show 32 * (n + 1) = 32 + 32 * n by omega, Nat.pow_add]
    omega
theorem vald_numd (f : Nat → Nat) : ∀ n, vald (fun i => (f i : Int)) n = (numd f n : Int)
  | 0 => rfl
  | n + 1 => by rw [vald, numd, vald_numd f n]; simp
/-- A digit, off the number. -/
theorem numd_digit (f : Nat → Nat) (j : Nat) : ∀ n, j < n → (∀ i, i < n → f i < 2 ^ 32) → numd f n / 2 ^ (32 * j) % 2 ^ 32 = f j
  | 0, h, _ => by omega
  | n + 1, h, hf => by
    rw [numd]
    rcases Nat.lt_or_ge j n with g | g
    · rw [show 32 * n = 32 * j + (32 + 32 * (n - j - 1)) by omega, Nat.pow_add, Nat.pow_add, ← Nat.mul_assoc, Nat.mul_comm (f n), Nat.mul_assoc, Nat.add_mul_div_left _ _ (Nat.two_pow_pos _), ← Nat.mul_assoc, Nat.mul_comm (f n), Nat.mul_assoc, Nat.add_mul_mod_self_left]
      exact numd_digit f j n g (fun i hi => hf i (by omega))
    · obtain rfl : n = j := by omega
      have l := numd_lt (f := f) (n := n) (fun i hi => hf i (by omega))
      rw [Nat.mul_comm, Nat.add_mul_div_left _ _ (Nat.two_pow_pos _), Nat.div_eq_of_lt l, Nat.zero_add]
      exact Nat.mod_eq_of_lt (hf n (by omega))
/-- A bit of a number is a bit of its digit. -/
theorem numd_bit (f : Nat → Nat) (n k : Nat) (hk : k < 32 * n) (hf : ∀ i, i < n → f i < 2 ^ 32) : numd f n / 2 ^ k % 2 = f (k / 32) / 2 ^ (k % 32) % 2 := by
  rw [← numd_digit f (k / 32) n (by omega) hf]
  generalize numd f n = V
  have hb : k % 32 < 32 := Nat.mod_lt _ (by decide)
  have e : (2 : Nat) ^ k = 2 ^ (32 * (k / 32)) * 2 ^ (k % 32) := by rw [← Nat.pow_add, Nat.div_add_mod]
  rw [e, ← Nat.div_div_eq_div_mul]
  generalize V / 2 ^ (32 * (k / 32)) = U
  generalize k % 32 = b at *
  have e2 : (2 : Nat) ^ 32 = 2 ^ b * (2 * 2 ^ (31 - b)) := by rw [← Nat.pow_succ', ← Nat.pow_add]; congr 1; omega
  rw [e2, Nat.mod_mul_right_div_self, Nat.mod_mul_right_mod]
/-- One more bit of a number read from the top. -/
theorem bit_step (V k : Nat) : V / 2 ^ k = V / 2 ^ (k + 1) * 2 + V / 2 ^ k % 2 := by
  rw [Nat.pow_succ, ← Nat.div_div_eq_div_mul]
  omega
/-- The bits below a place are nought iff the rest is. -/
theorem rest_step (V k : Nat) : V % 2 ^ (k + 1) = V % 2 ^ k + V / 2 ^ k % 2 * 2 ^ k := by
  rw [Nat.pow_succ, Nat.mod_mul, Nat.mul_comm (2 ^ k)]
theorem two_parts (m B t : Nat) : m % B * t + m / B * t * B = m * t := by
  have d := Nat.mod_add_div m B
  have : m * t = (m % B + B * (m / B)) * t := by rw [d]
  rw [this, Nat.add_mul, Nat.mul_right_comm, Nat.mul_comm (m / B) B]
theorem three_parts (a b c p q P : Nat) : (a + b * p + c * q) * P = a * P + b * (p * P) + c * (q * P) := by
  rw [Nat.add_mul, Nat.add_mul, Nat.mul_assoc, Nat.mul_assoc]
theorem p_add (a b c : Nat) (h : c = a + b) : 2 ^ c = 2 ^ a * 2 ^ b := by rw [h, Nat.pow_add]
theorem parts_sum (lo hi A : Nat) : lo % A + (lo / A + hi % A) * A + hi / A * (A * A) = lo + hi * A := by
  have d1 := Nat.mod_add_div lo A
  have d2 := Nat.mod_add_div hi A
  have : hi * A = (hi % A + A * (hi / A)) * A := by rw [d2]
  rw [this, Nat.add_mul, Nat.add_mul, ← Nat.mul_assoc (hi / A), Nat.mul_comm (hi / A) A, Nat.mul_comm (lo / A) A]
  omega
/-- The digits that a number of m units times 2^F is taken into. -/
theorem take_gen (A m F s lo hi : Nat) (hA : A = 2 ^ 32) (hs : s = F % 32) (hl : lo = m % A * 2 ^ s) (hh : hi = m / A * 2 ^ s) :
    lo % A * 2 ^ (32 * (F / 32)) + (lo / A + hi % A) * 2 ^ (32 * (F / 32 + 1)) + hi / A * 2 ^ (32 * (F / 32 + 2)) = m * 2 ^ F := by
  have e1 : (2 : Nat) ^ (32 * (F / 32 + 1)) = A * 2 ^ (32 * (F / 32)) := by rw [hA]; exact p_add _ _ _ (by omega)
  have e2 : (2 : Nat) ^ (32 * (F / 32 + 2)) = A * A * 2 ^ (32 * (F / 32)) := by rw [hA, ← Nat.pow_add]; exact p_add _ _ _ (by omega)
  have e3 : (2 : Nat) ^ F = 2 ^ s * 2 ^ (32 * (F / 32)) := p_add _ _ _ (by omega)
  rw [e1, e2, e3]
  clear e1 e2 e3 hs hA
  have h : lo + hi * A = m * 2 ^ s := by rw [hl, hh]; exact two_parts m A (2 ^ s)
  rw [← Nat.mul_assoc m, ← h, ← parts_sum lo hi A]
  exact (three_parts _ _ _ _ _ _).symm
theorem take_eq (m F s lo hi : Nat) (hs : s = F % 32) (hl : lo = m % 4294967296 * 2 ^ s) (hh : hi = m / 4294967296 * 2 ^ s) :
    lo % 4294967296 * 2 ^ (32 * (F / 32)) + (lo / 4294967296 + hi % 4294967296) * 2 ^ (32 * (F / 32 + 1)) + hi / 4294967296 * 2 ^ (32 * (F / 32 + 2)) = m * 2 ^ F :=
  take_gen 4294967296 m F s lo hi (by decide) hs hl hh
end Go.Proofs.YtmkdcnemocdefaaGreatFmt

namespace Go.Proofs.YtmkdcnemocdefaaGreatFmt

/-- A mantissa N of n words, its top bit set, at the place A (turned by K) stands for S units. -/
structure Man (K N n A S : Nat) : Prop where
  val : N * 2 ^ A = S * 2 ^ K
  lo : 2 ^ (64 * n) ≤ 2 * N
  hi : N < 2 ^ (64 * n)

theorem Man.pos {K N n A S : Nat} (h : Man K N n A S) : 1 ≤ N ∧ 1 ≤ S ∧ 1 ≤ n := by
  have p : 0 < (2 : Nat) ^ (64 * n) := Nat.two_pow_pos _
  have a := h.lo
  have hN : 1 ≤ N := by omega
  refine ⟨hN, ?_, ?_⟩
  · rcases Nat.eq_zero_or_pos S with e | e
    · have v := h.val
      rw [e, Nat.zero_mul] at v
      have : 0 < N * 2 ^ A := Nat.mul_pos hN (Nat.two_pow_pos _)
      omega
    · exact e
  · rcases Nat.eq_zero_or_pos n with e | e
    · have b := h.hi
      rw [e, Nat.mul_zero, Nat.pow_zero] at b
      omega
    · exact e
/-- Where the number ends above. -/
theorem Man.top {K N n A S : Nat} (h : Man K N n A S) : K + 1 ≤ A + 64 * n := by
  have s := h.pos.2.1
  have l : S * 2 ^ K < 2 ^ (A + 64 * n) := by
    rw [← h.val, Nat.pow_add, Nat.mul_comm (2 ^ A)]
    exact Nat.mul_lt_mul_of_pos_right h.hi (Nat.two_pow_pos _)
  have l2 : 2 ^ K < 2 ^ (A + 64 * n) := Nat.lt_of_le_of_lt (Nat.le_mul_of_pos_left _ s) l
  exact (Nat.pow_lt_pow_iff_right (by decide)).1 l2
theorem Man.plain {K N n A S : Nat} (h : Man K N n A S) : N * 2 ^ (A + 64 * n - K) = S * 2 ^ (64 * n) := by
  have t := h.top
  refine Nat.eq_of_mul_eq_mul_right (Nat.two_pow_pos K) ?_
  rw [Nat.mul_assoc, ← Nat.pow_add, show A + 64 * n - K + K = A + 64 * n by omega, Nat.pow_add, ← Nat.mul_assoc, h.val, Nat.mul_right_comm]
theorem Man.size {K N n A S : Nat} (h : Man K N n A S) : 2 ^ (A + 64 * n - K) ≤ 2 * S ∧ S < 2 ^ (A + 64 * n - K) :=
  size_of h.plain h.lo h.hi
/-- A sum of two. -/
theorem val_add {K N1 A1 S1 N2 A2 S2 : Nat} (h1 : N1 * 2 ^ A1 = S1 * 2 ^ K) (h2 : N2 * 2 ^ A2 = S2 * 2 ^ K) (h : A1 ≤ A2) :
    (N1 + N2 * 2 ^ (A2 - A1)) * 2 ^ A1 = (S1 + S2) * 2 ^ K := by
  rw [Nat.add_mul, Nat.mul_assoc, ← Nat.pow_add, show A2 - A1 + A1 = A2 by omega, h1, h2, Nat.add_mul]
theorem val_shift {K N A S : Nat} (h : N * 2 ^ A = S * 2 ^ K) (d : Nat) (hd : d ≤ A) : N * 2 ^ d * 2 ^ (A - d) = S * 2 ^ K := by
  rw [Nat.mul_assoc, ← Nat.pow_add, show d + (A - d) = A by omega, h]
theorem val_sub {K N1 N2 A S1 S2 : Nat} (h1 : N1 * 2 ^ A = S1 * 2 ^ K) (h2 : N2 * 2 ^ A = S2 * 2 ^ K) : (N1 - N2) * 2 ^ A = (S1 - S2) * 2 ^ K := by
  rw [Nat.sub_mul, h1, h2, Nat.sub_mul]
theorem val_le {K N1 N2 A S1 S2 : Nat} (h1 : N1 * 2 ^ A = S1 * 2 ^ K) (h2 : N2 * 2 ^ A = S2 * 2 ^ K) : N1 ≤ N2 ↔ S1 ≤ S2 := by
  rw [← Nat.mul_le_mul_right_iff (Nat.two_pow_pos A), h1, h2, Nat.mul_le_mul_right_iff (Nat.two_pow_pos K)]
theorem val_zero {K A S : Nat} (h : 0 * 2 ^ A = S * 2 ^ K) : S = 0 := by
  rw [Nat.zero_mul] at h
  rcases Nat.mul_eq_zero.1 h.symm with e | e
  · exact e
  · have : 0 < (2 : Nat) ^ K := Nat.two_pow_pos K
    omega
/-- Normalized: the noughts ahead are shifted out. -/
theorem Man.norm {K N n A S s : Nat} (h : N * 2 ^ A = S * 2 ^ K) (hs : s ≤ A) (lo : 2 ^ (64 * n) ≤ 2 * (N * 2 ^ s)) (hi : N * 2 ^ s < 2 ^ (64 * n)) : Man K (N * 2 ^ s) n (A - s) S :=
  ⟨val_shift h s hs, lo, hi⟩
/-- What is below the lowest unit is nought: words may be struck. -/
theorem Man.low {K N n A S c : Nat} (h : Man K N n A S) (hc : c + A ≤ K) : N % 2 ^ c = 0 := by
  have e : N * 2 ^ A = S * 2 ^ (K - c - A) * 2 ^ c * 2 ^ A := by
    rw [Nat.mul_assoc, Nat.mul_assoc, ← Nat.pow_add, ← Nat.pow_add, show K - c - A + (c + A) = K by omega, h.val]
  rw [Nat.eq_of_mul_eq_mul_right (Nat.two_pow_pos A) e]
  exact Nat.mul_mod_left _ _
theorem Man.strike {K N n A S d : Nat} (h : Man K N n A S) (hd : d < n) (hc : 64 * d + A ≤ K) : Man K (N / 2 ^ (64 * d)) (n - d) (A + 64 * d) S := by
  have l := h.low hc
  have p : 0 < (2 : Nat) ^ (64 * d) := Nat.two_pow_pos _
  have e : N / 2 ^ (64 * d) * 2 ^ (64 * d) = N := by
    have q := Nat.mod_add_div N (2 ^ (64 * d))
    rw [l, Nat.zero_add, Nat.mul_comm] at q
    exact q
  have en : (2 : Nat) ^ (64 * n) = 2 ^ (64 * (n - d)) * 2 ^ (64 * d) := by rw [← Nat.pow_add]; congr 1; omega
  refine ⟨?_, ?_, ?_⟩
  · rw [Nat.add_comm A, Nat.pow_add, ← Nat.mul_assoc, e, h.val]
  · refine Nat.le_of_mul_le_mul_right ?_ p
    rw [Nat.mul_assoc, e, ← en]
    exact h.lo
  · refine Nat.lt_of_mul_lt_mul_right (a := 2 ^ (64 * d)) ?_
    rw [e, ← en]
    exact h.hi
/-- The first t words from the top; noughts behind the last. -/
def topw (f : Nat → Nat) (n : Nat) : Nat → Nat
  | 0 => 0
  | t + 1 => topw f n t * 2 ^ 64 + (if t < n then f (n - 1 - t) else 0)
theorem topw_le (f : Nat → Nat) (n : Nat) : ∀ t, t ≤ n → topw f n t * 2 ^ (64 * (n - t)) + num f (n - t) = num f n
  | 0, _ => by simp [topw]
  | t + 1, h => by
    rw [← topw_le f n t (by omega), topw, if_pos (show t < n by omega)]
    obtain ⟨m, hm⟩ : ∃ m, n - t = m + 1 := ⟨n - t - 1, by omega⟩
    rw [hm, show n - (t + 1) = m by omega, show n - 1 - t = m by omega, num, p64, Nat.add_mul, Nat.mul_assoc]
    omega
theorem topw_all (f : Nat → Nat) (n : Nat) : ∀ b, topw f n (n + b) = num f n * 2 ^ (64 * b)
  | 0 => by have h := topw_le f n n (Nat.le_refl _); simpa [num] using h
  | b + 1 => by
    rw [← Nat.add_assoc, topw, topw_all f n b, if_neg (by omega), p64]
    rw [Nat.add_zero, Nat.mul_assoc, Nat.mul_comm (2 ^ (64 * b))]
theorem topw_lt {f g : Nat → Nat} {n m : Nat} (hf : ∀ i, i < n → f i < 2 ^ 64) (t : Nat) (h : topw f n t < topw g m t) : ∀ b, topw f n (t + b) < topw g m (t + b)
  | 0 => h
  | b + 1 => by
    have i := topw_lt hf t h b
    rw [← Nat.add_assoc, topw, topw]
    have w : (if t + b < n then f (n - 1 - (t + b)) else 0) < 2 ^ 64 := by
      split
      · exact hf _ (by omega)
      · decide
    have m2 := Nat.mul_le_mul_right (2 ^ 64) (Nat.succ_le_of_lt i)
    rw [Nat.succ_mul] at m2
    omega
/-- Two numbers with the same end above, held word by word from the top. -/
theorem man_cmp {K A1 A2 n1 n2 S1 S2 u : Nat} {f g : Nat → Nat} (h1 : num f n1 * 2 ^ A1 = S1 * 2 ^ K) (h2 : num g n2 * 2 ^ A2 = S2 * 2 ^ K) (he : A1 + 64 * n1 = A2 + 64 * n2)
    (hu1 : n1 ≤ u) (hu2 : n2 ≤ u) : S1 * 2 ^ (K + 64 * u) = topw f n1 u * 2 ^ (A1 + 64 * n1) ∧ S2 * 2 ^ (K + 64 * u) = topw g n2 u * 2 ^ (A1 + 64 * n1) := by
  have a := topw_all f n1 (u - n1)
  have b := topw_all g n2 (u - n2)
  rw [show n1 + (u - n1) = u by omega] at a
  rw [show n2 + (u - n2) = u by omega] at b
  rw [a, b]
  constructor
  · rw [Nat.pow_add 2 K, ← Nat.mul_assoc, ← h1, Nat.mul_assoc, Nat.mul_assoc, ← Nat.pow_add, ← Nat.pow_add]
    congr 2; omega
  · rw [he, Nat.pow_add 2 K, ← Nat.mul_assoc, ← h2, Nat.mul_assoc, Nat.mul_assoc, ← Nat.pow_add, ← Nat.pow_add]
    congr 2; omega
end Go.Proofs.YtmkdcnemocdefaaGreatFmt
