/- Parts of lit pixels: plain laws. -/
import Derived.Test.YthbekddpnkammaaDoorTab
namespace Go.Proofs.YthbekddpnkammaaDoor
open Go.RowKit

/-- Pixels that touch. -/
def Adj (wide n k m : Nat) : Prop := k < n ∧ m < n ∧ m ≠ k ∧ ∃ dy dx : Int, -1 ≤ dy ∧ dy ≤ 1 ∧ -1 ≤ dx ∧ dx ≤ 1 ∧ (m : Int) = k + dy * wide + dx ∧ 0 ≤ (k % wide : Nat) + dx ∧ ((k % wide : Nat) : Int) + dx < wide
theorem place_at {wide k : Nat} {dy dx : Int} {m : Nat} (hw : 0 < wide) (h : (m : Int) = k + dy * wide + dx) (h1 : 0 ≤ ((k % wide : Nat) : Int) + dx) (h2 : ((k % wide : Nat) : Int) + dx < wide) :
    ((m % wide : Nat) : Int) = (k % wide : Nat) + dx ∧ ((m / wide : Nat) : Int) = (k / wide : Nat) + dy := by
  have ek : (k : Int) = (wide : Int) * ((k / wide : Nat) : Int) + ((k % wide : Nat) : Int) := by
    have := Nat.div_add_mod k wide
    rw [← Int.natCast_mul, ← Int.natCast_add, this]
  have e : (m : Int) = (((k % wide : Nat) : Int) + dx) + (wide : Int) * (((k / wide : Nat) : Int) + dy) := by
    rw [h, Int.mul_add, Int.mul_comm dy]; omega
  have hm : ((m % wide : Nat) : Int) = (m : Int) % wide := Int.natCast_emod ..
  have hd : ((m / wide : Nat) : Int) = (m : Int) / wide := Int.natCast_ediv ..
  refine ⟨?_, ?_⟩
  · rw [hm, e, Int.add_mul_emod_self_left, Int.emod_eq_of_lt h1 h2]
  · rw [hd, e, Int.add_mul_ediv_left _ _ (by omega), Int.ediv_eq_zero_of_lt h1 h2]; omega
theorem Adj.symm {wide n k m : Nat} (hw : 0 < wide) (h : Adj wide n k m) : Adj wide n m k := by
  obtain ⟨h1, h2, h3, dy, dx, a1, a2, b1, b2, e, c1, c2⟩ := h
  have hp := place_at hw e c1 c2
  have hk : ((k % wide : Nat) : Int) < wide := by have := Nat.mod_lt k hw; omega
  have hk0 : 0 ≤ ((k % wide : Nat) : Int) := by omega
  refine ⟨h2, h1, Ne.symm h3, -dy, -dx, by omega, by omega, by omega, by omega, ?_, by omega, by omega⟩
  rw [Int.neg_mul]; omega

/-- Lit pixels that hang together. -/
inductive Conn (lit : Nat → Bool) (wide n : Nat) : Nat → Nat → Prop
  | refl {a : Nat} : lit a = true → a < n → Conn lit wide n a a
  | step {a b c : Nat} : Conn lit wide n a b → Adj wide n b c → lit c = true → Conn lit wide n a c
section
variable {lit : Nat → Bool} {wide n : Nat}
theorem Conn.lit2 {a b : Nat} (h : Conn lit wide n a b) : lit b = true ∧ b < n := by
  cases h with
  | refl h1 h2 => exact ⟨h1, h2⟩
  | step _ h1 h2 => exact ⟨h2, h1.2.1⟩
theorem Conn.lit1 {a b : Nat} (h : Conn lit wide n a b) : lit a = true ∧ a < n := by
  induction h with
  | refl h1 h2 => exact ⟨h1, h2⟩
  | step _ _ _ ih => exact ih
theorem Conn.trans {a b c : Nat} (h : Conn lit wide n a b) (k : Conn lit wide n b c) : Conn lit wide n a c := by
  induction k with
  | refl _ _ => exact h
  | step _ h1 h2 ih => exact ih.step h1 h2
theorem Conn.head {a b c : Nat} (h : Adj wide n a b) (ha : lit a = true) (k : Conn lit wide n b c) : Conn lit wide n a c :=
  (Conn.step (Conn.refl ha h.1) h k.lit1.1).trans k
theorem Conn.symm (hw : 0 < wide) {a b : Nat} (h : Conn lit wide n a b) : Conn lit wide n b a := by
  induction h with
  | refl h1 h2 => exact Conn.refl h1 h2
  | step h0 h1 h2 ih => exact Conn.head (h1.symm hw) h2 ih

/-- The first pixel of a part. -/
def Root (lit : Nat → Bool) (wide n r : Nat) : Prop := lit r = true ∧ r < n ∧ ∀ j, j < r → ¬ Conn lit wide n j r
theorem root_exists {k : Nat} (h1 : lit k = true) (h2 : k < n) : ∃ r, Root lit wide n r ∧ Conn lit wide n r k ∧ r ≤ k := by
  have key : ∀ m, ∀ j, j ≤ m → Conn lit wide n j k → ∃ r, Root lit wide n r ∧ Conn lit wide n r k ∧ r ≤ j := by
    intro m
    induction m with
    | zero =>
      intro j hj hc
      obtain rfl : j = 0 := by omega
      exact ⟨0, ⟨hc.lit1.1, hc.lit1.2, fun i hi => absurd hi (Nat.not_lt_zero _)⟩, hc, Nat.le_refl _⟩
    | succ m ih =>
      intro j hj hc
      by_cases c : ∃ i, i < j ∧ Conn lit wide n i j
      · obtain ⟨i, hi, hij⟩ := c
        obtain ⟨r, a, b, d⟩ := ih i (by omega) (hij.trans hc)
        exact ⟨r, a, b, by omega⟩
      · exact ⟨j, ⟨hc.lit1.1, hc.lit1.2, fun i hi hij => c ⟨i, hi, hij⟩⟩, hc, Nat.le_refl _⟩
  exact key k k (Nat.le_refl _) (Conn.refl h1 h2)
theorem root_one (hw : 0 < wide) {r s k : Nat} (h1 : Root lit wide n r) (h2 : Root lit wide n s) (c1 : Conn lit wide n r k) (c2 : Conn lit wide n s k) : r = s := by
  rcases Nat.lt_trichotomy r s with c | c | c
  · exact absurd (c1.trans (c2.symm hw)) (h2.2.2 r c)
  · exact c
  · exact absurd (c2.trans (c1.symm hw)) (h1.2.2 s c)

open Classical in
/-- How many first pixels lie ahead. -/
noncomputable def rc (lit : Nat → Bool) (wide n : Nat) : Nat → Nat
  | 0 => 0
  | i + 1 => rc lit wide n i + (if Root lit wide n i then 1 else 0)
theorem rc_root {i : Nat} (h : Root lit wide n i) : rc lit wide n (i + 1) = rc lit wide n i + 1 := by rw [rc, if_pos h]
theorem rc_not {i : Nat} (h : ¬ Root lit wide n i) : rc lit wide n (i + 1) = rc lit wide n i := by rw [rc, if_neg h]; rfl
theorem rc_le (i : Nat) : rc lit wide n i ≤ i := by
  induction i with
  | zero => exact Nat.le_refl _
  | succ i ih =>
    by_cases h : Root lit wide n i
    · rw [rc_root h]; omega
    · rw [rc_not h]; omega
theorem rc_mono {i j : Nat} (h : i ≤ j) : rc lit wide n i ≤ rc lit wide n j := by
  induction j with
  | zero => rw [show i = 0 by omega]; exact Nat.le_refl _
  | succ j ih =>
    by_cases c : i = j + 1
    · rw [c]; exact Nat.le_refl _
    · have := ih (by omega)
      have h2 : rc lit wide n j ≤ rc lit wide n (j + 1) := by rw [rc]; omega
      omega

/-- What the labels are. -/
def Labels (lit : Nat → Bool) (wide n : Nat) (out : Nat → Int) : Prop :=
  ∀ k, k < n → (lit k = false → out k = 0) ∧ ∀ r, Root lit wide n r → Conn lit wide n r k → out k = (rc lit wide n (r + 1) : Nat)
theorem labels_one {f g : Nat → Int} (hf : Labels lit wide n f) (hg : Labels lit wide n g) : ∀ k, k < n → f k = g k := by
  intro k hk
  cases hl : lit k with
  | false => rw [(hf k hk).1 hl, (hg k hk).1 hl]
  | true =>
    obtain ⟨r, h1, h2, _⟩ := root_exists hl hk
    rw [(hf k hk).2 r h1 h2, (hg k hk).2 r h1 h2]
end
end Go.Proofs.YthbekddpnkammaaDoor
