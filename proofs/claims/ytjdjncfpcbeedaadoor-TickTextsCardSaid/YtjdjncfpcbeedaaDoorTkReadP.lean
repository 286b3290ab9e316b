/- Reading a stamp's text: plain laws; faulted at a bare error. -/
import Derived.Test.YtjdjncfpcbeedaaDoorFaultC
import Derived.Test.YtjdjncfpcbeedaaDoorBt
import Derived.Test.YtjdjncfpcbeedaaDoorTkTextP
namespace Go.Proofs.YtjdjncfpcbeedaaDoor
open Go.RowKit

theorem faulted_bare (ad : Nat → Addr) (i : Nat) (c : Int) (hi : i < 10) (hc : (i : Int) + 1 = c) (w : World) (h : Sents w ad) :
    Calls Tryd.prog 27 #[errV ad i, .agg #[.int .i64 c, .int .i64 (-1)]] w fun e w' => e = .returned (.bool true) ∧ Below w.heap.size w w' := by
  have hb0 : ∀ o, Below w.heap.size w (w.alloc o) := fun o => (Below.refl _ _).alloc (Nat.le_refl _) _
  have HC := Lib.hid (fun o => code_err ad i hi (w.alloc o) (h.below (hb0 o)))
  subst hc
  have d0 : ((i : Int) + 1 == 0) = false := by simp; omega
  clear h hb0
  unfold errV at HC ⊢
  go_enter Tryd.func27, Tryd.ntmps27
  go_wp2_with fail
  refine (HC.out _).mono ?_; rintro e w1 ⟨rfl, hb1⟩
  obtain ⟨hc, hf⟩ := hb1c hb1
  have HB := Lib.hid hb1
  clear hb1
  go_wp2
  go_ret
  exact ⟨rfl, below_step ((Below.refl _ _).alloc (Nat.le_refl _) _) HB.out⟩
/-- Does a digit stand at a place of the form? -/
def digF (i : Nat) : Bool := i != 4 && i != 7 && i != 10 && i != 13 && i != 16 && i != 19 && i != 26
/-- The sign that stands there else. -/
def sigF (i : Nat) : Nat := if i = 4 ∨ i = 7 then 45 else if i = 10 then 84 else if i = 13 ∨ i = 16 then 58 else if i = 19 then 46 else 90
def sep : Nat → Nat
  | 0 => 0
  | i + 1 => if digF i then sep i else sep i + 1
def dgs : Nat → Nat
  | 0 => 0
  | i + 1 => if digF i then dgs i + 1 else 0
def upN (f : Nat → Nat) (k v : Nat) : Nat → Nat := fun j => if j = k then v else f j
def nst (s : ByteArray) : Nat → Nat → Nat
  | 0 => fun _ => 0
  | i + 1 => if digF i then upN (nst s i) (sep i) (nst s i (sep i) * 10 + (bt s i - 48)) else nst s i
def goodAt (s : ByteArray) (i : Nat) : Prop := i < s.size ∧ ((digF i = true ∧ 48 ≤ bt s i ∧ bt s i ≤ 57) ∨ (digF i = false ∧ bt s i = sigF i))
theorem sep_le : ∀ i, i < 27 → sep i ≤ 6 := by decide
theorem sep_dig : ∀ i, i < 27 → digF i = true → sep i ≤ 6 ∧ dgs i ≤ 5 := by decide
theorem sep_27 : sep 27 = 7 := by decide
theorem sep_d {i : Nat} (h : digF i = true) : sep (i + 1) = sep i := if_pos h
theorem sep_s {i : Nat} (h : digF i = false) : sep (i + 1) = sep i + 1 := if_neg (by rw [h]; decide)
theorem dgs_d {i : Nat} (h : digF i = true) : dgs (i + 1) = dgs i + 1 := if_pos h
theorem dgs_s {i : Nat} (h : digF i = false) : dgs (i + 1) = 0 := if_neg (by rw [h]; decide)
theorem nst_d {s : ByteArray} {i : Nat} (h : digF i = true) : nst s (i + 1) = upN (nst s i) (sep i) (nst s i (sep i) * 10 + (bt s i - 48)) := if_pos h
theorem nst_s {s : ByteArray} {i : Nat} (h : digF i = false) : nst s (i + 1) = nst s i := if_neg (by rw [h]; decide)
theorem upN_at (f : Nat → Nat) (k v : Nat) : upN f k v k = v := if_pos rfl
theorem upN_ne (f : Nat → Nat) {k j : Nat} (v : Nat) (h : j ≠ k) : upN f k v j = f j := if_neg h
theorem nst_bd {s : ByteArray} : ∀ i, i ≤ 27 → (∀ j, j < i → goodAt s j) → (∀ j, nst s i j < 1000000) ∧ nst s i (sep i) < 10 ^ dgs i ∧ ∀ j, sep i < j → nst s i j = 0
  | 0, _, _ => ⟨fun _ => by show 0 < 1000000; omega, by show 0 < 10 ^ 0; decide, fun _ _ => rfl⟩
  | i + 1, hi, hg => by
    obtain ⟨h1, h2, h3⟩ := nst_bd i (by omega) (fun j hj => hg j (by omega))
    obtain ⟨g1, ⟨gd, g2, g3⟩ | ⟨gd, _⟩⟩ := hg i (by omega)
    · obtain ⟨q1, q2⟩ := sep_dig i (by omega) gd
      have hp : 10 ^ dgs i ≤ 100000 := Nat.pow_le_pow_right (by decide) q2
      rw [nst_d gd, sep_d gd, dgs_d gd]
      refine ⟨fun j => ?_, ?_, fun j hj => ?_⟩
      · by_cases c : j = sep i
        · rw [c, upN_at]; omega
        · rw [upN_ne _ _ c]; exact h1 j
      · rw [upN_at, Nat.pow_succ]; omega
      · rw [upN_ne _ _ (by omega)]; exact h3 j hj
    · rw [nst_s gd, sep_s gd, dgs_s gd]
      exact ⟨h1, by rw [h3 _ (by omega)]; decide, fun j hj => h3 j (by omega)⟩
open Classical in
/-- The first place that is wrong, from i on. -/
noncomputable def badF (s : ByteArray) : Nat → Nat → Option Nat
  | 0, _ => none
  | k + 1, i => if goodAt s i then badF s k (i + 1) else some i
theorem badF_good {s : ByteArray} {i : Nat} (h : goodAt s i) (hi : i < 27) : badF s (27 - i) i = badF s (27 - (i + 1)) (i + 1) := by
  obtain ⟨k, hk⟩ : ∃ k, 27 - i = k + 1 := ⟨26 - i, by omega⟩
  rw [hk, show 27 - (i + 1) = k by omega]
  exact if_pos h
theorem badF_bad {s : ByteArray} {i : Nat} (h : ¬ goodAt s i) (hi : i < 27) : badF s (27 - i) i = some i := by
  obtain ⟨k, hk⟩ : ∃ k, 27 - i = k + 1 := ⟨26 - i, by omega⟩
  rw [hk]
  exact if_neg h
end Go.Proofs.YtjdjncfpcbeedaaDoor
