/- Filling one part after the other: plain laws; the row that is written and the stack. -/
import Derived.Test.YthbekddpnkammaaGreatDoorConn
import Derived.Test.YthbekddpnkammaaGreatDoorOutC
namespace Go.Proofs.YthbekddpnkammaaGreatDoor
open Go.RowKit

section
variable {lit : Nat → Bool} {wide n : Nat}
/-- Ahead of pixel i: the parts that begin ahead of it are filled. -/
def FI (lit : Nat → Bool) (wide n i : Nat) (M : Nat → Nat) : Prop :=
  ∀ k, k < n → (M k ≠ 0 → ∃ r, Root lit wide n r ∧ r < i ∧ Conn lit wide n r k ∧ M k = rc lit wide n (r + 1)) ∧ ∀ r, Root lit wide n r → r < i → Conn lit wide n r k → M k = rc lit wide n (r + 1)
theorem rc_pos {r : Nat} (h : Root lit wide n r) : 0 < rc lit wide n (r + 1) := by rw [rc_root h]; omega
theorem FI.zero : FI lit wide n 0 (fun _ => 0) := fun k _ => ⟨fun h => absurd rfl h, fun r _ hr => absurd hr (Nat.not_lt_zero _)⟩
theorem FI.pass {i : Nat} {M : Nat → Nat} (h : FI lit wide n i M) (hn : ¬ Root lit wide n i) : FI lit wide n (i + 1) M := by
  intro k hk
  obtain ⟨h1, h2⟩ := h k hk
  refine ⟨fun hM => ?_, fun r hr hri hc => ?_⟩
  · obtain ⟨r, a, b, c, d⟩ := h1 hM
    exact ⟨r, a, by omega, c, d⟩
  · by_cases c : r = i
    · subst c; exact absurd hr hn
    · exact h2 r hr (by omega) hc
theorem FI.root {i : Nat} {M : Nat → Nat} (h : FI lit wide n i M) (hl : lit i = true) (hi : i < n) (h0 : M i = 0) : Root lit wide n i := by
  refine ⟨hl, hi, fun j hj hc => ?_⟩
  obtain ⟨r, a, b, c⟩ := root_exists hc.lit1.1 hc.lit1.2
  have := (h i hi).2 r a (by omega) (b.trans hc)
  have := rc_pos a
  omega
theorem FI.notRoot {i : Nat} {M : Nat → Nat} (h : FI lit wide n i M) (hi : i < n) (h0 : M i ≠ 0) : ¬ Root lit wide n i := by
  intro hr
  obtain ⟨r, a, b, c, _⟩ := (h i hi).1 h0
  exact hr.2.2 r b c
/-- While part i is filled: the stack S; pixel k is at work, t of its neighbours are done ('none': no pixel is). -/
structure FJ (lit : Nat → Bool) (wide n i : Nat) (M : Nat → Nat) (S : List Nat) (at' : Option (Nat × Nat)) : Prop where
  root : Root lit wide n i
  some' : ∀ k, k < n → M k ≠ 0 → (∃ r, Root lit wide n r ∧ r < i ∧ Conn lit wide n r k ∧ M k = rc lit wide n (r + 1)) ∨ (Conn lit wide n i k ∧ M k = rc lit wide n (i + 1))
  old : ∀ k, k < n → ∀ r, Root lit wide n r → r < i → Conn lit wide n r k → M k = rc lit wide n (r + 1)
  first : M i = rc lit wide n (i + 1)
  stack : ∀ s, s ∈ S → Conn lit wide n i s ∧ M s ≠ 0
  closed : ∀ k, Conn lit wide n i k → M k ≠ 0 → ¬ k ∈ S → (∀ p, at' = some p → k ≠ p.1) → ∀ m, Adj wide n k m → lit m = true → M m ≠ 0
  now : ∀ p, at' = some p → Conn lit wide n i p.1 ∧ M p.1 ≠ 0 ∧ ∀ j, j < p.2 → ∀ m : Nat, (nbs wide n p.1).getD j 0 = (m : Int) → j < (nbs wide n p.1).length → lit m = true → M m ≠ 0
theorem FJ.start (hw : 0 < wide) {i : Nat} {M : Nat → Nat} (h : FI lit wide n i M) (hr : Root lit wide n i) : FJ lit wide n i (putF M i (rc lit wide n (i + 1))) [i] none := by
  have hp := rc_pos hr
  have hl : ∀ k, Conn lit wide n i k → k ≠ i → M k = 0 := by
    intro k hc hk
    rcases Nat.eq_zero_or_pos (M k) with h0 | h0
    · exact h0
    · obtain ⟨r, a, b, c, d⟩ := (h k hc.lit2.2).1 (by omega)
      exact absurd (c.trans (hc.symm hw)) (hr.2.2 r b)
  refine ⟨hr, fun k hk hM => ?_, fun k hk r a b c => ?_, putF_same _ _ _, fun s hs => ?_, fun k hc hM hS _ => ?_, fun p hp => by cases hp⟩
  · by_cases e : k = i
    · subst e; exact Or.inr ⟨Conn.refl hr.1 hk, putF_same _ _ _⟩
    · rw [putF_other _ _ e] at hM ⊢; exact Or.inl ((h k hk).1 hM)
  · by_cases e : k = i
    · subst e; exact absurd c (hr.2.2 r b)
    · rw [putF_other _ _ e]; exact (h k hk).2 r a b c
  · rw [List.mem_singleton.1 hs]; exact ⟨Conn.refl hr.1 hr.2.1, by rw [putF_same]; omega⟩
  · have e : k ≠ i := fun e => hS (by rw [e]; exact List.mem_singleton.2 rfl)
    rw [putF_other _ _ e] at hM
    exact absurd (hl k hc e) hM
theorem FJ.pop {i k : Nat} {M : Nat → Nat} {S : List Nat} (h : FJ lit wide n i M (S ++ [k]) none) : FJ lit wide n i M S (some (k, 0)) := by
  refine ⟨h.root, h.some', h.old, h.first, fun s hs => h.stack s (List.mem_append_left _ hs), fun k' hc hM hS hk => ?_, fun p hp => ?_⟩
  · refine h.closed k' hc hM (fun hm => ?_) (fun p hp => by cases hp)
    rcases List.mem_append.1 hm with h1 | h1
    · exact hS h1
    · exact hk (k, 0) rfl (List.mem_singleton.1 h1)
  · obtain rfl := Option.some.inj hp
    have := h.stack k (List.mem_append_right _ (List.mem_singleton.2 rfl))
    exact ⟨this.1, this.2, fun j hj => absurd hj (Nat.not_lt_zero _)⟩
theorem FJ.skip {i k t : Nat} {M : Nat → Nat} {S : List Nat} (h : FJ lit wide n i M S (some (k, t))) {m : Nat} (hm : (nbs wide n k).getD t 0 = (m : Int)) (hs : lit m = true → M m ≠ 0) : FJ lit wide n i M S (some (k, t + 1)) := by
  refine ⟨h.root, h.some', h.old, h.first, h.stack, fun k' hc hM hS hk => h.closed k' hc hM hS (fun p hp => by obtain rfl := Option.some.inj hp; exact hk (k, t + 1) rfl), fun p hp => ?_⟩
  obtain rfl := Option.some.inj hp
  obtain ⟨a, b, c⟩ := h.now (k, t) rfl
  refine ⟨a, b, fun j hj m' hm' hjl hl => ?_⟩
  by_cases e : j = t
  · subst e
    have : m = m' := by simp only at hm'; omega
    subst this
    exact hs hl
  · exact c j (by simp only at hj ⊢; omega) m' hm' hjl hl
theorem FJ.push {i k t : Nat} {M : Nat → Nat} {S : List Nat} (h : FJ lit wide n i M S (some (k, t))) {m : Nat} (hm : (nbs wide n k).getD t 0 = (m : Int)) (ha : Adj wide n k m) (hl : lit m = true) (h0 : M m = 0) :
    FJ lit wide n i (putF M m (rc lit wide n (i + 1))) (S ++ [m]) (some (k, t + 1)) := by
  have hp := rc_pos h.root
  obtain ⟨a, b, c⟩ := h.now (k, t) rfl
  simp only at a b c
  have hc : Conn lit wide n i m := a.step ha hl
  have hne : ∀ x, M x ≠ 0 → putF M m (rc lit wide n (i + 1)) x ≠ 0 := by
    intro x hx
    by_cases e : x = m
    · rw [e, putF_same]; omega
    · rw [putF_other _ _ e]; exact hx
  refine ⟨h.root, fun x hx hM => ?_, fun x hx r r1 r2 r3 => ?_, ?_, fun s hs => ?_, fun x xc hM hS hk y hy hly => ?_, fun p hp => ?_⟩
  · by_cases e : x = m
    · subst e; exact Or.inr ⟨hc, putF_same _ _ _⟩
    · rw [putF_other _ _ e] at hM ⊢; exact h.some' x hx hM
  · by_cases e : x = m
    · subst e
      have := h.old x hx r r1 r2 r3
      have := rc_pos r1
      omega
    · rw [putF_other _ _ e]; exact h.old x hx r r1 r2 r3
  · by_cases e : i = m
    · rw [e, putF_same]
    · rw [putF_other _ _ e]; exact h.first
  · rcases List.mem_append.1 hs with h1 | h1
    · exact ⟨(h.stack s h1).1, hne s (h.stack s h1).2⟩
    · rw [List.mem_singleton.1 h1]; exact ⟨hc, by rw [putF_same]; omega⟩
  · have e : x ≠ m := fun e => hS (by rw [e]; exact List.mem_append_right _ (List.mem_singleton.2 rfl))
    rw [putF_other _ _ e] at hM
    exact hne y (h.closed x xc hM (fun hm => hS (List.mem_append_left _ hm)) (fun p hp => by obtain rfl := Option.some.inj hp; exact hk (k, t + 1) rfl) y hy hly)
  · obtain rfl := Option.some.inj hp
    refine ⟨a, hne k b, fun j hj m' hm' hjl hl' => ?_⟩
    by_cases e : j = t
    · subst e
      have : m = m' := by simp only at hm'; omega
      subst this
      rw [putF_same]; omega
    · exact hne m' (c j (by simp only at hj ⊢; omega) m' hm' hjl hl')
theorem FJ.done (hw : 0 < wide) {i k : Nat} {M : Nat → Nat} {S : List Nat} (h : FJ lit wide n i M S (some (k, (nbs wide n k).length))) : FJ lit wide n i M S none := by
  obtain ⟨a, b, c⟩ := h.now _ rfl
  simp only at a b c
  refine ⟨h.root, h.some', h.old, h.first, h.stack, fun x xc hM hS _ y hy hly => ?_, fun p hp => by cases hp⟩
  by_cases e : x = k
  · subst e
    have hm := (mem_nbs hw xc.lit2.2 (y : Int)).2 ⟨y, rfl, hy⟩
    obtain ⟨j, hj, he⟩ := List.getElem_of_mem hm
    exact c j hj y (by rw [List.getD_eq_getElem?_getD, List.getElem?_eq_getElem hj]; exact he) hj hly
  · exact h.closed x xc hM hS (fun p hp => by obtain rfl := Option.some.inj hp; exact e) y hy hly
theorem FJ.stop (hw : 0 < wide) {i : Nat} {M : Nat → Nat} (h : FJ lit wide n i M [] none) : FI lit wide n (i + 1) M := by
  have hp := rc_pos h.root
  have all : ∀ k, Conn lit wide n i k → M k ≠ 0 := by
    intro k hc
    induction hc with
    | refl h1 h2 => rw [h.first]; omega
    | step h1 h2 h3 ih => exact h.closed _ h1 ih (by simp) (fun p hp => by cases hp) _ h2 h3
  intro k hk
  refine ⟨fun hM => ?_, fun r hr hri hc => ?_⟩
  · rcases h.some' k hk hM with ⟨r, a, b, c, d⟩ | ⟨c, d⟩
    · exact ⟨r, a, by omega, c, d⟩
    · exact ⟨i, h.root, by omega, c, d⟩
  · by_cases e : r = i
    · subst e
      rcases h.some' k hk (all k hc) with ⟨r', a, b, c, d⟩ | ⟨c, d⟩
      · exact absurd (c.trans (hc.symm hw)) (h.root.2.2 r' b)
      · exact d
    · exact h.old k hk r hr (by omega) hc
end
end Go.Proofs.YthbekddpnkammaaGreatDoor
