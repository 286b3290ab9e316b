/- The lower middle of some numbers: plain laws. -/
import Derived.ProofKit
import Derived.Test.YthbekddpnkammaaGreatDoorInts
namespace Go.Proofs.YthbekddpnkammaaGreatDoor
open Go.RowKit

def leB (x y : Int) : Bool := decide (x ≤ y)
def srt (l : List Int) : List Int := l.mergeSort (fun x y => decide (x ≤ y))
/-- The lower middle one. -/
def medL (l : List Int) : Int := (srt l).getD ((l.length - 1) / 2) 0
def ltC (l : List Int) (v : Int) : Nat := l.countP (fun x => decide (x < v))
def eqC (l : List Int) (v : Int) : Nat := l.countP (fun x => decide (x = v))
theorem srt_perm (l : List Int) : (srt l).Perm l := List.mergeSort_perm _ _
theorem srt_len (l : List Int) : (srt l).length = l.length := (srt_perm l).length_eq
theorem srt_pw (l : List Int) : (srt l).Pairwise (fun a b => a ≤ b) := by
  have h := List.pairwise_mergeSort (le := fun (x y : Int) => decide (x ≤ y)) (by intro a b c; simp; omega) (by intro a b; simp; omega) l
  exact h.imp (by intro a b; simp)
theorem leC_eq (l : List Int) (v : Int) : l.countP (fun x => decide (x ≤ v)) = ltC l v + eqC l v := by
  unfold ltC eqC
  induction l with
  | nil => rfl
  | cons x l ih =>
    simp only [List.countP_cons, ih]
    by_cases h1 : x < v
    · have e1 : decide (x ≤ v) = true := by simp; omega
      have e2 : decide (x < v) = true := by simp; omega
      have e3 : decide (x = v) = false := by simp; omega
      simp [e1, e2, e3]; omega
    · by_cases h2 : x = v
      · have e1 : decide (x ≤ v) = true := by simp; omega
        have e2 : decide (x < v) = false := by simp; omega
        have e3 : decide (x = v) = true := by simp; omega
        simp [e1, e2, e3]; omega
      · have e1 : decide (x ≤ v) = false := by simp; omega
        have e2 : decide (x < v) = false := by simp; omega
        have e3 : decide (x = v) = false := by simp; omega
        simp [e1, e2, e3]
def isMid (l : List Int) (v : Int) : Prop := ltC l v ≤ (l.length - 1) / 2 ∧ (l.length - 1) / 2 < ltC l v + eqC l v
theorem take_pw {S : List Int} (h : S.Pairwise (fun a b => a ≤ b)) {k : Nat} (hk : k < S.length) : (∀ x, x ∈ S.take (k + 1) → x ≤ S[k]) ∧ ∀ x, x ∈ S.drop k → S[k] ≤ x := by
  rw [List.pairwise_iff_getElem] at h
  constructor
  · intro x hx
    obtain ⟨i, hi, rfl⟩ := List.mem_iff_getElem.1 hx
    rw [List.length_take] at hi
    rw [List.getElem_take]
    by_cases c : i = k
    · subst c; exact Int.le_refl _
    · exact h i k (by omega) hk (by omega)
  · intro x hx
    obtain ⟨i, hi, rfl⟩ := List.mem_iff_getElem.1 hx
    rw [List.length_drop] at hi
    rw [List.getElem_drop]
    by_cases c : i = 0
    · subst c; exact Int.le_refl _
    · exact h k (k + i) hk (by omega) (by omega)
theorem medL_mid {l : List Int} (h : l ≠ []) : isMid l (medL l) := by
  have hl : 0 < l.length := List.length_pos_iff.2 h
  have hk : (l.length - 1) / 2 < (srt l).length := by rw [srt_len]; omega
  have e : medL l = (srt l)[(l.length - 1) / 2] := by unfold medL; rw [List.getD_eq_getElem?_getD, List.getElem?_eq_getElem hk]; rfl
  obtain ⟨h1, h2⟩ := take_pw (srt_pw l) hk
  unfold isMid
  rw [← leC_eq, e]
  generalize (srt l)[(l.length - 1) / 2] = v at *
  constructor
  · unfold ltC
    rw [← (srt_perm l).countP_eq]
    conv => lhs; rw [← List.take_append_drop ((l.length - 1) / 2) (srt l)]
    have h0 : ((srt l).drop ((l.length - 1) / 2)).countP (fun x => decide (x < v)) = 0 := List.countP_eq_zero.2 (fun x hx => by have := h2 x hx; simp; omega)
    rw [List.countP_append, h0]
    have := List.countP_le_length (p := fun x => decide (x < v)) (l := (srt l).take ((l.length - 1) / 2))
    rw [List.length_take] at this
    omega
  · rw [← (srt_perm l).countP_eq]
    conv => rhs; rw [← List.take_append_drop ((l.length - 1) / 2 + 1) (srt l)]
    rw [List.countP_append]
    have : ((srt l).take ((l.length - 1) / 2 + 1)).countP (fun x => decide (x ≤ v)) = ((srt l).take ((l.length - 1) / 2 + 1)).length := List.countP_eq_length.2 (fun x hx => by have := h1 x hx; simpa using this)
    rw [this, List.length_take]
    omega
theorem mid_one {l : List Int} {x y : Int} (hx : isMid l x) (hy : isMid l y) : x = y := by
  have key : ∀ {a b : Int}, a < b → ltC l a + eqC l a ≤ ltC l b := fun {a b} h => by
    rw [← leC_eq]
    exact List.countP_mono_left (fun z _ hz => by simp at hz ⊢; omega)
  rcases Int.lt_trichotomy x y with h | h | h
  · have := key h; have := hx.2; have := hy.1; omega
  · exact h
  · have := key h; have := hy.2; have := hx.1; omega
theorem medL_mem {l : List Int} (h : l ≠ []) : medL l ∈ l := by
  have hl : 0 < l.length := List.length_pos_iff.2 h
  have hk : (l.length - 1) / 2 < (srt l).length := by rw [srt_len]; omega
  have e : medL l = (srt l)[(l.length - 1) / 2] := by unfold medL; rw [List.getD_eq_getElem?_getD, List.getElem?_eq_getElem hk]; rfl
  rw [e]
  exact (srt_perm l).subset (List.getElem_mem _)
theorem medL_perm {l m : List Int} (h : l.Perm m) (hn : l ≠ []) : medL l = medL m := by
  have hm : m ≠ [] := fun e => hn (by rw [e] at h; exact h.eq_nil)
  refine mid_one (medL_mid hn) ?_
  have hy := medL_mid hm
  unfold isMid ltC eqC at *
  rw [h.countP_eq, h.countP_eq, h.length_eq]
  exact hy
end Go.Proofs.YthbekddpnkammaaGreatDoor

namespace Go.Proofs.YthbekddpnkammaaGreatDoor
open Go.RowKit

/-- The first n values of a row. -/
def upto (f : Nat → Int) (n : Nat) : List Int := (List.range n).map f
theorem upto_succ (f : Nat → Int) (k : Nat) : upto f (k + 1) = upto f k ++ [f k] := by simp [upto, List.range_succ]
theorem upto_len (f : Nat → Int) (k : Nat) : (upto f k).length = k := by simp [upto]
theorem upto_congr {f g : Nat → Int} {n : Nat} (h : ∀ j, j < n → f j = g j) : upto f n = upto g n := List.map_congr_left (fun j hj => h j (List.mem_range.1 hj))
theorem upto_list (L : List Int) : upto (fun j => L.getD j 0) L.length = L := by
  apply List.ext_getElem
  · simp [upto]
  · intro i h1 h2
    simp [upto, h2]
theorem mem_upto {f : Nat → Int} {n : Nat} {x : Int} : x ∈ upto f n ↔ ∃ j, j < n ∧ x = f j := by
  unfold upto
  rw [List.mem_map]
  exact ⟨fun ⟨j, h1, h2⟩ => ⟨j, List.mem_range.1 h1, h2.symm⟩, fun ⟨j, h1, h2⟩ => ⟨j, List.mem_range.2 h1, h2.symm⟩⟩
theorem ltC_succ (f : Nat → Int) (k : Nat) (v : Int) : ltC (upto f (k + 1)) v = ltC (upto f k) v + if f k < v then 1 else 0 := by
  unfold ltC; rw [upto_succ, List.countP_append]; simp [List.countP_cons]
theorem eqC_succ (f : Nat → Int) (k : Nat) (v : Int) : eqC (upto f (k + 1)) v = eqC (upto f k) v + if f k = v then 1 else 0 := by
  unfold eqC; rw [upto_succ, List.countP_append]; simp [List.countP_cons]
theorem ltC_le (f : Nat → Int) (k : Nat) (v : Int) : ltC (upto f k) v ≤ k := by
  have := List.countP_le_length (p := fun x => decide (x < v)) (l := upto f k)
  rw [upto_len] at this; exact this
theorem eqC_le (f : Nat → Int) (k : Nat) (v : Int) : eqC (upto f k) v ≤ k := by
  have := List.countP_le_length (p := fun x => decide (x = v)) (l := upto f k)
  rw [upto_len] at this; exact this
theorem mid_some (f : Nat → Int) {n : Nat} (h : 0 < n) : ∃ i, i < n ∧ isMid (upto f n) (f i) := by
  have hn : upto f n ≠ [] := fun e => by have := upto_len f n; rw [e] at this; simp at this; omega
  obtain ⟨i, h1, h2⟩ := mem_upto.1 (medL_mem hn)
  exact ⟨i, h1, by rw [← h2]; exact medL_mid hn⟩
theorem mid_med (f : Nat → Int) {n i : Nat} (hm : isMid (upto f n) (f i)) (h : 0 < n) : f i = medL (upto f n) := by
  have hn : upto f n ≠ [] := fun e => by have := upto_len f n; rw [e] at this; simp at this; omega
  exact mid_one hm (medL_mid hn)
theorem mid_def (f : Nat → Int) (n : Nat) (v : Int) : isMid (upto f n) v ↔ (ltC (upto f n) v : Int) ≤ ((n : Int) - 1) / 2 ∧ ((n : Int) - 1) / 2 < (ltC (upto f n) v : Int) + (eqC (upto f n) v : Int) ∨ n = 0 ∧ isMid (upto f n) v := by
  unfold isMid
  rw [upto_len]
  omega

end Go.Proofs.YthbekddpnkammaaGreatDoor
