/- How far a share of the light reaches: plain laws. -/
import Derived.Test.YthbekddpnkammaaGreatDoorTab
import Derived.Test.YthbekddpnkammaaGreatDoorRndP
import Derived.Test.YthbekddpnkammaaGreatDoorPic
namespace Go.Proofs.YthbekddpnkammaaGreatDoor

/-- The light of all rings; of those within a distance. -/
def sumN : List (Int × Int) → Int
  | [] => 0
  | a :: L => a.2 + sumN L
def sumLe (v : Int) : List (Int × Int) → Int
  | [] => 0
  | a :: L => (if a.1 ≤ v then a.2 else 0) + sumLe v L
theorem sumN_app (A B : List (Int × Int)) : sumN (A ++ B) = sumN A + sumN B := by
  induction A with
  | nil => show sumN B = 0 + sumN B; omega
  | cons a A ih => show a.2 + sumN (A ++ B) = a.2 + sumN A + sumN B; omega
theorem sumLe_app (v : Int) (A B : List (Int × Int)) : sumLe v (A ++ B) = sumLe v A + sumLe v B := by
  induction A with
  | nil => show sumLe v B = 0 + sumLe v B; omega
  | cons a A ih =>
    show (if a.1 ≤ v then a.2 else 0) + sumLe v (A ++ B) = (if a.1 ≤ v then a.2 else 0) + sumLe v A + sumLe v B
    omega
theorem sumN_one (A : List (Int × Int)) (a : Int × Int) : sumN (A ++ [a]) = sumN A + a.2 := by
  rw [sumN_app]
  show _ + (a.2 + 0) = _
  omega
theorem sumLe_one (v : Int) (A : List (Int × Int)) (a : Int × Int) : sumLe v (A ++ [a]) = sumLe v A + if a.1 ≤ v then a.2 else 0 := by
  rw [sumLe_app]
  show _ + ((if a.1 ≤ v then a.2 else 0) + 0) = _
  omega
theorem sumN_perm {A B : List (Int × Int)} (h : A.Perm B) : sumN A = sumN B := by
  induction h with
  | nil => rfl
  | cons a _ ih => show a.2 + _ = a.2 + _; rw [ih]
  | swap a b l => show b.2 + (a.2 + sumN l) = a.2 + (b.2 + sumN l); omega
  | trans _ _ h1 h2 => rw [h1, h2]
theorem sumLe_perm {v : Int} {A B : List (Int × Int)} (h : A.Perm B) : sumLe v A = sumLe v B := by
  induction h with
  | nil => rfl
  | cons a _ ih => show (if a.1 ≤ v then a.2 else 0) + _ = (if a.1 ≤ v then a.2 else 0) + _; rw [ih]
  | swap a b l =>
    show (if b.1 ≤ v then b.2 else 0) + ((if a.1 ≤ v then a.2 else 0) + sumLe v l) = (if a.1 ≤ v then a.2 else 0) + ((if b.1 ≤ v then b.2 else 0) + sumLe v l)
    omega
  | trans _ _ h1 h2 => rw [h1, h2]
theorem sumLe_all {v : Int} {A : List (Int × Int)} (h : ∀ a, a ∈ A → a.1 ≤ v) : sumLe v A = sumN A := by
  induction A with
  | nil => rfl
  | cons a A ih =>
    show (if a.1 ≤ v then a.2 else 0) + sumLe v A = a.2 + sumN A
    rw [if_pos (h a (List.mem_cons_self ..)), ih (fun b hb => h b (List.mem_cons_of_mem _ hb))]
theorem sumLe_none {v : Int} {A : List (Int × Int)} (h : ∀ a, a ∈ A → v < a.1) : sumLe v A = 0 := by
  induction A with
  | nil => rfl
  | cons a A ih =>
    show (if a.1 ≤ v then a.2 else 0) + sumLe v A = 0
    have := h a (List.mem_cons_self ..)
    rw [if_neg (by omega), ih (fun b hb => h b (List.mem_cons_of_mem _ hb))]
    rfl
theorem sumN_bd {A : List (Int × Int)} {c : Int} (h : ∀ a, a ∈ A → 0 ≤ a.2 ∧ a.2 ≤ c) : 0 ≤ sumN A ∧ sumN A ≤ c * A.length := by
  induction A with
  | nil => exact ⟨Int.le_refl _, by show (0 : Int) ≤ c * ((0 : Nat) : Int); simp⟩
  | cons a A ih =>
    obtain ⟨h1, h2⟩ := h a (List.mem_cons_self ..)
    obtain ⟨h3, h4⟩ := ih (fun b hb => h b (List.mem_cons_of_mem _ hb))
    have e : c * ((a :: A).length : Int) = c * (A.length : Int) + c := by rw [List.length_cons, Int.natCast_succ, Int.mul_add, Int.mul_one]
    rw [e]
    show 0 ≤ a.2 + sumN A ∧ a.2 + sumN A ≤ _
    omega
theorem sumLe_bd {v : Int} {A : List (Int × Int)} {c : Int} (h : ∀ a, a ∈ A → 0 ≤ a.2 ∧ a.2 ≤ c) : 0 ≤ sumLe v A ∧ sumLe v A ≤ c * A.length := by
  induction A with
  | nil => exact ⟨Int.le_refl _, by show (0 : Int) ≤ c * ((0 : Nat) : Int); simp⟩
  | cons a A ih =>
    obtain ⟨h1, h2⟩ := h a (List.mem_cons_self ..)
    obtain ⟨h3, h4⟩ := ih (fun b hb => h b (List.mem_cons_of_mem _ hb))
    have e : c * ((a :: A).length : Int) = c * (A.length : Int) + c := by rw [List.length_cons, Int.natCast_succ, Int.mul_add, Int.mul_one]
    rw [e]
    show 0 ≤ (if a.1 ≤ v then a.2 else 0) + sumLe v A ∧ (if a.1 ≤ v then a.2 else 0) + sumLe v A ≤ _
    split <;> omega

/-- The least distance at which a condition holds. -/
def LeastD (L : List (Int × Int)) (c : Int → Prop) (v : Int) : Prop := (∃ a, a ∈ L ∧ a.1 = v) ∧ c v ∧ ∀ a, a ∈ L → c a.1 → v ≤ a.1
theorem leastD_one {L : List (Int × Int)} {c : Int → Prop} {u v : Int} (h : LeastD L c u) (k : LeastD L c v) : u = v := by
  obtain ⟨⟨a, ha, rfl⟩, hc, hm⟩ := h
  obtain ⟨⟨b, hb, rfl⟩, kc, km⟩ := k
  have h1 := hm b hb kc
  have h2 := km a ha hc
  omega
/-- What the reference has found so far. -/
def BestD (L : List (Int × Int)) (c : Int → Prop) (b : Int) : Prop := (b = -1 ∧ ∀ a, a ∈ L → ¬ c a.1) ∨ (LeastD L c b ∧ 0 ≤ b)
theorem BestD.nil (c : Int → Prop) : BestD [] c (-1) := Or.inl ⟨rfl, fun a h => by cases h⟩
theorem BestD.skip {L : List (Int × Int)} {c : Int → Prop} {b : Int} {a : Int × Int} (h : BestD L c b) (h0 : 0 ≤ b) (h1 : b ≤ a.1) : BestD (L ++ [a]) c b := by
  rcases h with ⟨e, _⟩ | ⟨⟨⟨x, hx, e⟩, hc, hm⟩, h2⟩
  · omega
  · refine Or.inr ⟨⟨⟨x, List.mem_append_left _ hx, e⟩, hc, fun y hy hcy => ?_⟩, h2⟩
    rcases List.mem_append.1 hy with hy | hy
    · exact hm y hy hcy
    · obtain rfl := List.mem_singleton.1 hy
      exact h1
theorem BestD.take {L : List (Int × Int)} {c : Int → Prop} {b : Int} {a : Int × Int} (h : BestD L c b) (hn : ¬ (0 ≤ b ∧ b ≤ a.1)) (h0 : 0 ≤ a.1) (hc : c a.1) : BestD (L ++ [a]) c a.1 := by
  refine Or.inr ⟨⟨⟨a, List.mem_append_right _ (List.mem_singleton.2 rfl), rfl⟩, hc, fun y hy hcy => ?_⟩, h0⟩
  rcases List.mem_append.1 hy with hy | hy
  · rcases h with ⟨_, hno⟩ | ⟨⟨_, _, hm⟩, h2⟩
    · exact absurd hcy (hno y hy)
    · have := hm y hy hcy
      omega
  · obtain rfl := List.mem_singleton.1 hy
    exact Int.le_refl _
theorem BestD.pass {L : List (Int × Int)} {c : Int → Prop} {b : Int} {a : Int × Int} (h : BestD L c b) (hc : ¬ c a.1) : BestD (L ++ [a]) c b := by
  rcases h with ⟨e, hno⟩ | ⟨⟨⟨x, hx, e⟩, hb, hm⟩, h2⟩
  · refine Or.inl ⟨e, fun y hy => ?_⟩
    rcases List.mem_append.1 hy with hy | hy
    · exact hno y hy
    · obtain rfl := List.mem_singleton.1 hy
      exact hc
  · refine Or.inr ⟨⟨⟨x, List.mem_append_left _ hx, e⟩, hb, fun y hy hcy => ?_⟩, h2⟩
    rcases List.mem_append.1 hy with hy | hy
    · exact hm y hy hcy
    · obtain rfl := List.mem_singleton.1 hy
      exact absurd hcy hc
theorem BestD.done {L : List (Int × Int)} {c : Int → Prop} {b : Int} (h : BestD L c b) (hs : ∃ a, a ∈ L ∧ c a.1) : LeastD L c b := by
  rcases h with ⟨_, hno⟩ | ⟨h, _⟩
  · obtain ⟨a, ha, hc⟩ := hs
    exact absurd hc (hno a ha)
  · exact h

/-- Enough of the light lies within. -/
def Enough (share all : Int) (L : List (Int × Int)) (v : Int) : Prop := share * all ≤ 100 * sumLe v L

/-! ### the rings in order -/
section
variable {D : List (Int × Int)} {d : Nat → Int × Int} {n : Nat}
/-- The last of those that are as far. -/
def EndD (d : Nat → Int × Int) (n i : Nat) : Prop := i + 1 = n ∨ (d i).1 < (d (i + 1)).1
theorem dsorted_le (hs : ∀ i j, i < j → j < n → (d i).1 ≤ (d j).1) {i j : Nat} (hij : i ≤ j) (hj : j < n) : (d i).1 ≤ (d j).1 := by
  by_cases e : i = j
  · rw [e]; exact Int.le_refl _
  · exact hs i j (by omega) hj
theorem end_ahead (hs : ∀ i j, i < j → j < n → (d i).1 ≤ (d j).1) {i : Nat} (hi : i < n) : ∀ k j, i - j = k → j < i → (d j).1 < (d i).1 → ∃ e, j ≤ e ∧ e < i ∧ (d e).1 = (d j).1 ∧ EndD d n e
  | 0, j, hk, hj, _ => by omega
  | k + 1, j, hk, hj, hlt => by
    by_cases c : (d j).1 < (d (j + 1)).1
    · exact ⟨j, Nat.le_refl _, hj, rfl, Or.inr c⟩
    · have h1 := hs j (j + 1) (by omega) (by omega)
      have e1 : (d (j + 1)).1 = (d j).1 := by omega
      have h2 : j + 1 < i := by
        by_cases c2 : j + 1 = i
        · rw [← c2] at hlt; omega
        · omega
      obtain ⟨e, a1, a2, a3, a4⟩ := end_ahead hs hi k (j + 1) (by omega) h2 (by omega)
      exact ⟨e, by omega, a2, by omega, a4⟩
/-- The rings up to a place. -/
def preD (d : Nat → Int × Int) (i : Nat) : List (Int × Int) := (List.range i).map d
theorem preD_succ (d : Nat → Int × Int) (i : Nat) : preD d (i + 1) = preD d i ++ [d i] := by unfold preD; rw [List.range_succ, List.map_append]; rfl
theorem preD_mem {d : Nat → Int × Int} {i : Nat} {a : Int × Int} : a ∈ preD d i ↔ ∃ j, j < i ∧ a = d j := by
  unfold preD
  rw [List.mem_map]
  constructor
  · rintro ⟨j, hj, rfl⟩; exact ⟨j, List.mem_range.1 hj, rfl⟩
  · rintro ⟨j, hj, rfl⟩; exact ⟨j, List.mem_range.2 hj, rfl⟩
theorem pre_split (d : Nat → Int × Int) {i n : Nat} (h : i ≤ n) : preD d n = preD d i ++ ((List.range (n - i)).map fun k => d (i + k)) := by
  obtain ⟨m, rfl⟩ : ∃ m, n = i + m := ⟨n - i, by omega⟩
  rw [Nat.add_sub_cancel_left]
  unfold preD
  rw [List.range_add, List.map_append, List.map_map]
  rfl
/-- At the last of those that are as far: all that is within has been counted. -/
theorem pre_sum (hs : ∀ i j, i < j → j < n → (d i).1 ≤ (d j).1) {i : Nat} (hi : i < n) (he : EndD d n i) : sumLe (d i).1 (preD d n) = sumN (preD d (i + 1)) := by
  rw [pre_split d (show i + 1 ≤ n by omega), sumLe_app, sumLe_all, sumLe_none, Int.add_zero]
  · intro a ha
    obtain ⟨k, hk, rfl⟩ := List.mem_map.1 ha
    have hk := List.mem_range.1 hk
    rcases he with he | he
    · omega
    · exact Int.lt_of_lt_of_le he (dsorted_le hs (by omega) (by omega))
  · intro a ha
    obtain ⟨j, hj, rfl⟩ := preD_mem.1 ha
    exact dsorted_le hs (by omega) hi
/-- The first place where enough has been counted is the answer. -/
theorem first_least {share all : Int} (hs : ∀ i j, i < j → j < n → (d i).1 ≤ (d j).1) {i : Nat} (hi : i < n) (he : EndD d n i) (hc : share * all ≤ 100 * sumN (preD d (i + 1)))
    (hp : ∀ j, j < i → EndD d n j → ¬ share * all ≤ 100 * sumN (preD d (j + 1))) : LeastD (preD d n) (Enough share all (preD d n)) (d i).1 := by
  refine ⟨⟨d i, preD_mem.2 ⟨i, hi, rfl⟩, rfl⟩, ?_, ?_⟩
  · unfold Enough
    rw [pre_sum hs hi he]
    exact hc
  · intro a ha hca
    obtain ⟨j, hj, rfl⟩ := preD_mem.1 ha
    rcases Int.lt_or_le (d j).1 (d i).1 with c | c
    · exfalso
      have hji : j < i := by
        rcases Nat.lt_or_ge j i with g | g
        · exact g
        · have := dsorted_le hs g hj
          omega
      obtain ⟨e, _, e2, e3, e4⟩ := end_ahead hs hi (i - j) j rfl hji c
      refine hp e e2 e4 ?_
      unfold Enough at hca
      rw [← e3, pre_sum hs (by omega) e4] at hca
      exact hca
    · exact c
theorem LeastD.perm {A B : List (Int × Int)} {share all v : Int} (h : A.Perm B) (k : LeastD A (Enough share all A) v) : LeastD B (Enough share all B) v := by
  obtain ⟨⟨a, ha, e⟩, hc, hm⟩ := k
  have hE : ∀ u, Enough share all A u ↔ Enough share all B u := fun u => by unfold Enough; rw [sumLe_perm h]
  exact ⟨⟨a, h.mem_iff.1 ha, e⟩, (hE v).1 hc, fun x hx hcx => hm x (h.mem_iff.2 hx) ((hE _).2 hcx)⟩
end
/-- All of the light is enough. -/
theorem enough_some {L : List (Int × Int)} {share : Int} (hne : L ≠ []) (h0 : ∀ a, a ∈ L → 0 ≤ a.2) (hs : share ≤ 100) : ∃ a, a ∈ L ∧ Enough share (sumN L) L a.1 := by
  have key : ∀ L : List (Int × Int), L ≠ [] → ∃ a, a ∈ L ∧ ∀ b, b ∈ L → b.1 ≤ a.1 := by
    intro L
    induction L with
    | nil => intro h; exact absurd rfl h
    | cons x L ih =>
      intro _
      by_cases c : L = []
      · subst c
        exact ⟨x, List.mem_cons_self .., fun b hb => by obtain rfl := List.mem_singleton.1 hb; exact Int.le_refl _⟩
      · obtain ⟨a, ha, hm⟩ := ih c
        rcases Int.lt_or_le a.1 x.1 with g | g
        · refine ⟨x, List.mem_cons_self .., fun b hb => ?_⟩
          rcases List.mem_cons.1 hb with rfl | hb
          · exact Int.le_refl _
          · have := hm b hb; omega
        · refine ⟨a, List.mem_cons_of_mem _ ha, fun b hb => ?_⟩
          rcases List.mem_cons.1 hb with rfl | hb
          · exact g
          · exact hm b hb
  obtain ⟨a, ha, hm⟩ := key L hne
  refine ⟨a, ha, ?_⟩
  unfold Enough
  rw [sumLe_all hm]
  have hn : 0 ≤ sumN L := by
    clear key ha hm hne
    induction L with
    | nil => exact Int.le_refl _
    | cons x L ih =>
      have h1 := h0 x (List.mem_cons_self ..)
      have h2 := ih (fun b hb => h0 b (List.mem_cons_of_mem _ hb))
      show 0 ≤ x.2 + sumN L
      omega
  exact Int.mul_le_mul_of_nonneg_right hs hn

/-! ### rings gathered row by row -/
/-- A part of a row. -/
def rowP (g : Nat → Nat → Int × Int) (i : Nat) : Nat → List (Int × Int)
  | 0 => []
  | j + 1 => rowP g i j ++ [g i j]
/-- Whole rows. -/
def rowsP (g : Nat → Nat → Int × Int) (w : Nat) : Nat → List (Int × Int)
  | 0 => []
  | i + 1 => rowsP g w i ++ rowP g i w
/-- Whole rows and a part of the next. -/
def boxP (g : Nat → Nat → Int × Int) (w i j : Nat) : List (Int × Int) := rowsP g w i ++ rowP g i j
theorem boxP_row (g : Nat → Nat → Int × Int) (w i : Nat) : boxP g w i w = boxP g w (i + 1) 0 := by
  unfold boxP
  rw [show rowP g (i + 1) 0 = [] from rfl, List.append_nil]
  rfl
theorem boxP_step (g : Nat → Nat → Int × Int) (w i j : Nat) : boxP g w i (j + 1) = boxP g w i j ++ [g i j] := by
  unfold boxP
  rw [show rowP g i (j + 1) = rowP g i j ++ [g i j] from rfl, List.append_assoc]
theorem rowP_len (g : Nat → Nat → Int × Int) (i j : Nat) : (rowP g i j).length = j := by
  induction j with
  | zero => rfl
  | succ j ih => rw [rowP, List.length_append, ih]; rfl
theorem rowsP_len (g : Nat → Nat → Int × Int) (w i : Nat) : (rowsP g w i).length = i * w := by
  induction i with
  | zero => rw [Nat.zero_mul]; rfl
  | succ i ih => rw [rowsP, List.length_append, ih, rowP_len, Nat.add_mul, Nat.one_mul]
theorem boxP_len (g : Nat → Nat → Int × Int) (w i j : Nat) : (boxP g w i j).length = i * w + j := by
  unfold boxP
  rw [List.length_append, rowsP_len, rowP_len]
theorem rowP_mem {g : Nat → Nat → Int × Int} {i j : Nat} {a : Int × Int} (h : a ∈ rowP g i j) : ∃ k, k < j ∧ a = g i k := by
  induction j with
  | zero => cases h
  | succ j ih =>
    rw [rowP, List.mem_append] at h
    rcases h with h | h
    · obtain ⟨k, hk, e⟩ := ih h
      exact ⟨k, by omega, e⟩
    · exact ⟨j, by omega, List.mem_singleton.1 h⟩
theorem rowsP_mem {g : Nat → Nat → Int × Int} {w i : Nat} {a : Int × Int} (h : a ∈ rowsP g w i) : ∃ r k, r < i ∧ k < w ∧ a = g r k := by
  induction i with
  | zero => cases h
  | succ i ih =>
    rw [rowsP, List.mem_append] at h
    rcases h with h | h
    · obtain ⟨r, k, hr, hk, e⟩ := ih h
      exact ⟨r, k, by omega, hk, e⟩
    · obtain ⟨k, hk, e⟩ := rowP_mem h
      exact ⟨i, k, by omega, hk, e⟩
theorem boxP_mem {g : Nat → Nat → Int × Int} {w i j : Nat} (hj : j ≤ w) {a : Int × Int} (h : a ∈ boxP g w i j) : ∃ r k, r < i + 1 ∧ k < w ∧ (r < i ∨ k < j) ∧ a = g r k := by
  unfold boxP at h
  rcases List.mem_append.1 h with h | h
  · obtain ⟨r, k, hr, hk, e⟩ := rowsP_mem h
    exact ⟨r, k, by omega, hk, Or.inl hr, e⟩
  · obtain ⟨k, hk, e⟩ := rowP_mem h
    exact ⟨i, k, by omega, by omega, Or.inr hk, e⟩
end Go.Proofs.YthbekddpnkammaaGreatDoor

namespace Go.Proofs.YthbekddpnkammaaGreatDoor
open Go.RowKit

/-- The ring of a pixel of a box: how far, how bright. -/
def ringG (X Y : Int) (V L T : Nat) (f : Nat → Int) (i j : Nat) : Int × Int := (midF X Y ((L + j : Nat) : Int) ((T + i : Nat) : Int), f ((T + i) * V + (L + j)))
/-- The box lies in the picture. -/
structure InBox (V K n L T bw bh : Nat) : Prop where
  area : n = K * V
  wide : 1 ≤ V ∧ V ≤ 256
  high : 1 ≤ K ∧ K ≤ 256
  right : L + bw ≤ V
  low : T + bh ≤ K
  some : 1 ≤ bw ∧ 1 ≤ bh
theorem InBox.at {V K n L T bw bh i j : Nat} (h : InBox V K n L T bw bh) (hi : i < bh) (hj : j < bw) : (T + i) * V + (L + j) < n := by
  have h1 := Nat.mul_le_mul_right V (show T + i + 1 ≤ K by have := h.low; omega)
  rw [Nat.succ_mul, ← h.area] at h1
  have := h.right
  omega
theorem InBox.len {V K n L T bw bh i j : Nat} (h : InBox V K n L T bw bh) (hi : i < bh) (hj : j ≤ bw) (X Y : Int) (f : Nat → Int) : (boxP (ringG X Y V L T f) bw i j).length ≤ 65536 := by
  rw [boxP_len]
  have h1 : i * bw ≤ i * 256 := Nat.mul_le_mul_left _ (by have := h.right; have := h.wide; omega)
  have := h.low
  have := h.high
  have := h.right
  have := h.wide
  omega
theorem InBox.len0 {V K n L T bw bh i : Nat} (h : InBox V K n L T bw bh) (hi : i ≤ bh) (X Y : Int) (f : Nat → Int) : (boxP (ringG X Y V L T f) bw i 0).length ≤ 65536 := by
  rw [boxP_len]
  have h1 : i * bw ≤ i * 256 := Nat.mul_le_mul_left _ (by have := h.right; have := h.wide; omega)
  have := h.low
  have := h.high
  omega
theorem midF_bd {X Y x y : Int} (x0 : 0 ≤ x) (x1 : x ≤ 65536) (y0 : 0 ≤ y) (y1 : y ≤ 65536) (X0 : -268435456 ≤ X) (X1 : X ≤ 268435456) (Y0 : -268435456 ≤ Y) (Y1 : Y ≤ 268435456) : 0 ≤ midF X Y x y ∧ midF X Y x y ≤ 2000000000000000000 := by
  have ha := sq_bd30 (A := 1024 * x + 512 - X) (by omega) (by omega)
  have hb := sq_bd30 (A := 1024 * y + 512 - Y) (by omega) (by omega)
  unfold midF
  omega
theorem InBox.ring {V K n L T bw bh : Nat} {X Y : Int} {f : Nat → Int} (h : InBox V K n L T bw bh) (hc : cntOk f n) (X0 : -268435456 ≤ X) (X1 : X ≤ 268435456) (Y0 : -268435456 ≤ Y) (Y1 : Y ≤ 268435456) {i j : Nat} (hi : i < bh) (hj : j < bw) :
    (0 ≤ (ringG X Y V L T f i j).1 ∧ (ringG X Y V L T f i j).1 ≤ 2000000000000000000) ∧ 0 ≤ (ringG X Y V L T f i j).2 ∧ (ringG X Y V L T f i j).2 ≤ 65535 := by
  have h1 := h.low
  have h2 := h.right
  have h3 := h.wide
  have h4 := h.high
  refine ⟨midF_bd (by omega) (by omega) (by omega) (by omega) X0 X1 Y0 Y1, hc _ (h.at hi hj)⟩
theorem InBox.mem {V K n L T bw bh : Nat} {X Y : Int} {f : Nat → Int} (h : InBox V K n L T bw bh) (hc : cntOk f n) (X0 : -268435456 ≤ X) (X1 : X ≤ 268435456) (Y0 : -268435456 ≤ Y) (Y1 : Y ≤ 268435456) {i j : Nat} (hi : i < bh ∨ i = bh ∧ j = 0) (hj : j ≤ bw) {a : Int × Int} (ha : a ∈ boxP (ringG X Y V L T f) bw i j) :
    (0 ≤ a.1 ∧ a.1 ≤ 2000000000000000000) ∧ 0 ≤ a.2 ∧ a.2 ≤ 65535 := by
  obtain ⟨r, k, hr, hk, hrk, rfl⟩ := boxP_mem hj ha
  exact h.ring hc X0 X1 Y0 Y1 (by omega) hk
/-- The light of a box: so much at most. -/
theorem InBox.sums {V K n L T bw bh : Nat} {X Y : Int} {f : Nat → Int} (h : InBox V K n L T bw bh) (hc : cntOk f n) (X0 : -268435456 ≤ X) (X1 : X ≤ 268435456) (Y0 : -268435456 ≤ Y) (Y1 : Y ≤ 268435456) {i j : Nat} (hi : i < bh ∨ i = bh ∧ j = 0) (hj : j ≤ bw) :
    (0 ≤ sumN (boxP (ringG X Y V L T f) bw i j) ∧ sumN (boxP (ringG X Y V L T f) bw i j) ≤ 65535 * 65536) ∧ ∀ v, 0 ≤ sumLe v (boxP (ringG X Y V L T f) bw i j) ∧ sumLe v (boxP (ringG X Y V L T f) bw i j) ≤ 65535 * 65536 := by
  have hl : (boxP (ringG X Y V L T f) bw i j).length ≤ 65536 := by
    rcases hi with hi | ⟨rfl, rfl⟩
    · exact h.len hi hj X Y f
    · exact h.len0 (Nat.le_refl _) X Y f
  have h1 := sumN_bd (A := boxP (ringG X Y V L T f) bw i j) (c := 65535) (fun a ha => (h.mem hc X0 X1 Y0 Y1 hi hj ha).2)
  refine ⟨⟨h1.1, ?_⟩, fun v => ?_⟩
  · have := h1.2
    omega
  · have h2 := sumLe_bd (v := v) (A := boxP (ringG X Y V L T f) bw i j) (c := 65535) (fun a ha => (h.mem hc X0 X1 Y0 Y1 hi hj ha).2)
    refine ⟨h2.1, ?_⟩
    have := h2.2
    omega
theorem sumN_preD {d : Nat → Int × Int} {i : Nat} : sumN (preD d (i + 1)) = sumN (preD d i) + (d i).2 := by rw [preD_succ, sumN_one]
theorem box_ne {V K n L T bw bh : Nat} (h : InBox V K n L T bw bh) (g : Nat → Nat → Int × Int) : boxP g bw bh 0 ≠ [] := by
  intro e
  have h1 := congrArg List.length e
  rw [boxP_len] at h1
  have := Nat.mul_le_mul h.some.2 h.some.1
  simp at h1
  omega
/-- The rings ahead of a pixel of a box. -/
def bxL (X Y : Int) (V L T : Nat) (f : Nat → Int) (bw y x : Nat) : List (Int × Int) := boxP (ringG X Y V L T f) bw (y - T) (x - L)
theorem bxL_start (X Y : Int) (V L T : Nat) (f : Nat → Int) (bw : Nat) : bxL X Y V L T f bw T L = [] := by
  unfold bxL
  rw [Nat.sub_self, Nat.sub_self]
  rfl
theorem bxL_step (X Y : Int) (V : Nat) {L T : Nat} (f : Nat → Int) (bw : Nat) {y x : Nat} (hy : T ≤ y) (hx : L ≤ x) : bxL X Y V L T f bw y (x + 1) = bxL X Y V L T f bw y x ++ [(midF X Y (x : Int) (y : Int), f (y * V + x))] := by
  unfold bxL
  rw [show x + 1 - L = (x - L) + 1 by omega, boxP_step]
  unfold ringG
  rw [show T + (y - T) = y by omega, show L + (x - L) = x by omega]
theorem bxL_row (X Y : Int) (V : Nat) {L T : Nat} (f : Nat → Int) (bw : Nat) {y : Nat} (hy : T ≤ y) : bxL X Y V L T f bw y (L + bw) = bxL X Y V L T f bw (y + 1) L := by
  unfold bxL
  rw [show y + 1 - T = (y - T) + 1 by omega, show L + bw - L = bw by omega, Nat.sub_self, boxP_row]
theorem bxL_all (X Y : Int) (V L T : Nat) (f : Nat → Int) (bw bh : Nat) : bxL X Y V L T f bw (T + bh) L = boxP (ringG X Y V L T f) bw bh 0 := by
  unfold bxL
  rw [Nat.add_sub_cancel_left, Nat.sub_self]
theorem bxL_sums {V K n L T bw bh : Nat} {X Y : Int} {f : Nat → Int} (h : InBox V K n L T bw bh) (hc : cntOk f n) (X0 : -268435456 ≤ X) (X1 : X ≤ 268435456) (Y0 : -268435456 ≤ Y) (Y1 : Y ≤ 268435456) {y x : Nat} (h1 : T ≤ y) (h2 : L ≤ x) (h3 : x ≤ L + bw) (h4 : y < T + bh ∨ y = T + bh ∧ x = L) :
    (0 ≤ sumN (bxL X Y V L T f bw y x) ∧ sumN (bxL X Y V L T f bw y x) ≤ 65535 * 65536) ∧ (∀ v, 0 ≤ sumLe v (bxL X Y V L T f bw y x) ∧ sumLe v (bxL X Y V L T f bw y x) ≤ 65535 * 65536) ∧ (bxL X Y V L T f bw y x).length ≤ 65536 := by
  have hi : y - T < bh ∨ y - T = bh ∧ x - L = 0 := by omega
  have hj : x - L ≤ bw := by omega
  have := h.sums hc X0 X1 Y0 Y1 hi hj
  refine ⟨this.1, this.2, ?_⟩
  unfold bxL
  rcases hi with hi | ⟨e1, e2⟩
  · exact h.len hi hj X Y f
  · rw [e1, e2]; exact h.len0 (Nat.le_refl _) X Y f
theorem bxL_at {V K n L T bw bh : Nat} (h : InBox V K n L T bw bh) {y x : Nat} (h1 : T ≤ y) (h2 : L ≤ x) (h3 : x < L + bw) (h4 : y < T + bh) : y * V + x < n := by
  have := h.at (i := y - T) (j := x - L) (by omega) (by omega)
  rw [show T + (y - T) = y by omega, show L + (x - L) = x by omega] at this
  exact this
set_option maxHeartbeats 1000000 in
theorem fromMiddle_any (x y X Y L : Int) (x0 : 0 ≤ x) (x1 : x ≤ 65536) (y0 : 0 ≤ y) (y1 : y ≤ 65536) (X0 : -268435456 ≤ X) (X1 : X ≤ 268435456) (Y0 : -268435456 ≤ Y) (Y1 : Y ≤ 268435456) (w : World) :
    Calls Tryz.prog 28 #[.int .i64 x, .int .i64 y, .agg #[.int .i64 X, .int .i64 Y, .int .i64 L]] w fun e w' => e = .returned (.int .i64 (midF X Y x y)) ∧ Below w.heap.size w w' := by
  have ha := sq_bd30 (A := 1024 * x + 512 - X) (by omega) (by omega)
  have hb := sq_bd30 (A := 1024 * y + 512 - Y) (by omega) (by omega)
  have hm : midF X Y x y = (1024 * x + 512 - X) * (1024 * x + 512 - X) + (1024 * y + 512 - Y) * (1024 * y + 512 - Y) := rfl
  rw [hm]
  clear hm
  go_enter Tryz.func28, Tryz.ntmps28
  go_wp2
  go_ret
  exact ⟨rfl, by go_grown⟩
end Go.Proofs.YthbekddpnkammaaGreatDoor
