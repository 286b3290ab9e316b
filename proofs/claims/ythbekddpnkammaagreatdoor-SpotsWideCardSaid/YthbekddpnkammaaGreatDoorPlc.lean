/- Spots by their light, equals as they came: plain laws. -/
import Derived.Test.YthbekddpnkammaaGreatDoorStbP
import Derived.Test.YthbekddpnkammaaGreatDoorDel
namespace Go.Proofs.YthbekddpnkammaaGreatDoor
open Go.Sort

/-- A spot placed behind all that are as bright. -/
def placeL (l : List Sp) (s : Sp) : List Sp := l.takeWhile (fun x => decide (s.Li ≤ x.Li)) ++ s :: l.dropWhile (fun x => decide (s.Li ≤ x.Li))
def placeAll (l : List Sp) : List Sp := l.foldl placeL []
def placeT (l : List (Sp × Nat)) (s : Sp × Nat) : List (Sp × Nat) := l.takeWhile (fun x => decide (s.1.Li ≤ x.1.Li)) ++ s :: l.dropWhile (fun x => decide (s.1.Li ≤ x.1.Li))
theorem placeT_fst (l : List (Sp × Nat)) (s : Sp × Nat) : (placeT l s).map Prod.fst = placeL (l.map Prod.fst) s.1 := by
  unfold placeT placeL
  rw [List.map_append, List.map_cons, List.takeWhile_map, List.dropWhile_map]
  rfl
theorem placeT_perm (l : List (Sp × Nat)) (s : Sp × Nat) : (placeT l s).Perm (s :: l) := by
  unfold placeT
  refine List.perm_middle.trans ?_
  rw [List.takeWhile_append_dropWhile]
theorem foldT_fst (l : List (Sp × Nat)) : ∀ acc : List (Sp × Nat), (l.foldl placeT acc).map Prod.fst = (l.map Prod.fst).foldl placeL (acc.map Prod.fst) := by
  induction l with
  | nil => intro acc; rfl
  | cons x l ih =>
    intro acc
    rw [List.foldl_cons, List.map_cons, List.foldl_cons, ih, placeT_fst]
theorem foldT_perm (l : List (Sp × Nat)) : ∀ acc : List (Sp × Nat), (l.foldl placeT acc).Perm (acc ++ l) := by
  induction l with
  | nil => intro acc; rw [List.foldl_nil, List.append_nil]
  | cons x l ih =>
    intro acc
    rw [List.foldl_cons]
    refine (ih _).trans ?_
    refine (List.Perm.append_right l (placeT_perm acc x)).trans ?_
    exact (List.perm_middle (l₁ := acc) (l₂ := l) (a := x)).symm
def kLi (x : Sp × Nat) : Int := x.1.Li
def kTg (x : Sp × Nat) : Nat := x.2
/-- One ahead of the other. -/
def before (x y : Sp × Nat) : Prop := ahd kLi kTg x y = true
theorem before_iff {x y : Sp × Nat} : before x y ↔ y.1.Li < x.1.Li ∨ x.1.Li = y.1.Li ∧ x.2 < y.2 := by
  unfold before ahd kLi kTg
  rw [decide_eq_true_eq]
theorem takeW_mem {p : Sp × Nat → Bool} {l : List (Sp × Nat)} {x : Sp × Nat} (h : x ∈ l.takeWhile p) : p x = true := by
  induction l with
  | nil => cases h
  | cons a l ih =>
    rw [List.takeWhile_cons] at h
    split at h
    · rename_i c
      rcases List.mem_cons.1 h with rfl | h
      · exact c
      · exact ih h
    · cases h
theorem dropW_mem {l : List (Sp × Nat)} {c : Int} (h : l.Pairwise before) {x : Sp × Nat} (hx : x ∈ l.dropWhile (fun y => decide (c ≤ y.1.Li))) : x.1.Li < c := by
  induction l with
  | nil => cases hx
  | cons a l ih =>
    rw [List.pairwise_cons] at h
    rw [List.dropWhile_cons] at hx
    split at hx
    · exact ih h.2 hx
    · rename_i hc
      have ha : a.1.Li < c := by simpa using hc
      rcases List.mem_cons.1 hx with rfl | hx
      · exact ha
      · have := before_iff.1 (h.1 x hx)
        omega
theorem placeT_sorted {l : List (Sp × Nat)} {s : Sp × Nat} (h : l.Pairwise before) (ht : ∀ x, x ∈ l → x.2 < s.2) : (placeT l s).Pairwise before := by
  unfold placeT
  have hall := h
  rw [← List.takeWhile_append_dropWhile (p := fun x : Sp × Nat => decide (s.1.Li ≤ x.1.Li)) (l := l), List.pairwise_append] at h
  obtain ⟨h1, h2, h3⟩ := h
  rw [List.pairwise_append, List.pairwise_cons]
  refine ⟨h1, ⟨fun y hy => ?_, h2⟩, fun x hx y hy => ?_⟩
  · have := dropW_mem hall hy
    exact before_iff.2 (Or.inl this)
  · have hxp : s.1.Li ≤ x.1.Li := by simpa using takeW_mem hx
    rcases List.mem_cons.1 hy with rfl | hy
    · have := ht x (List.takeWhile_subset _ hx)
      exact before_iff.2 (by omega)
    · exact h3 x hx y hy
theorem foldT_sorted : ∀ (l : List (Sp × Nat)) (acc : List (Sp × Nat)), acc.Pairwise before → (∀ x, x ∈ acc → ∀ y, y ∈ l → x.2 < y.2) → l.Pairwise (fun x y => x.2 < y.2) → (l.foldl placeT acc).Pairwise before
  | [], acc, h, _, _ => h
  | x :: l, acc, h, ht, hl => by
    rw [List.foldl_cons]
    rw [List.pairwise_cons] at hl
    refine foldT_sorted l _ (placeT_sorted h (fun y hy => ht y hy x (List.mem_cons_self ..))) (fun y hy z hz => ?_) hl.2
    rcases List.mem_cons.1 ((placeT_perm acc x).mem_iff.1 hy) with rfl | hy
    · exact hl.1 z hz
    · exact ht y hy z (List.mem_cons_of_mem _ hz)
/-- Sorted by light, equals as they came: one list. -/
theorem placed_one {l m : List (Sp × Nat)} (hl : l.Pairwise (fun x y => x.2 < y.2)) (hp : m.Perm l) (hs : m.Pairwise before) : m.map Prod.fst = placeAll (l.map Prod.fst) := by
  have h1 := foldT_sorted l [] List.Pairwise.nil (fun x hx => by cases hx) hl
  have h2 := foldT_perm l []
  rw [List.nil_append] at h2
  have e : m = l.foldl placeT [] := by
    refine List.Perm.eq_of_pairwise (le := before) (fun a b _ _ k1 k2 => ?_) hs h1 (hp.trans h2.symm)
    have q1 := before_iff.1 k1
    have q2 := before_iff.1 k2
    omega
  rw [e, foldT_fst]
  rfl
end Go.Proofs.YthbekddpnkammaaGreatDoor
