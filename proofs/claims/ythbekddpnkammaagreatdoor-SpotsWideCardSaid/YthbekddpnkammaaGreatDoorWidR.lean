/- Rings in a row. -/
import Derived.Test.YthbekddpnkammaaGreatDoorWidP
import Derived.Test.YthbekddpnkammaaGreatDoorProp
import Derived.Test.YthbekddpnkammaaGreatDoorGrdS
import Derived.Test.YthbekddpnkammaaGreatDoorSortRg
import Derived.Test.YthbekddpnkammaaGreatDoorSrtF
namespace Go.Proofs.YthbekddpnkammaaGreatDoor
open Go.RowKit

/-- A ring's two cells. -/
def encR (x : Int × Int) : List Value := [.int .i64 x.1, .int .i64 x.2]
def cellR (d : Nat → Int × Int) (j : Nat) : Int := if j % 2 = 0 then (d (j / 2)).1 else (d (j / 2)).2
def encRs (L : List (Int × Int)) : List Value := (List.range (L.length * 2)).map fun j => .int .i64 (cellR (fun p => L.getD p (0, 0)) j)
theorem encRs_len (L : List (Int × Int)) : (encRs L).length = L.length * 2 := by unfold encRs; rw [List.length_map, List.length_range]
theorem encRs_get (L : List (Int × Int)) {j : Nat} (h : j < L.length * 2) : (encRs L)[j]? = some (.int .i64 (cellR (fun p => L.getD p (0, 0)) j)) := by
  unfold encRs
  rw [List.getElem?_map, List.getElem?_range h]
  rfl
theorem encRs_no (L : List (Int × Int)) {j : Nat} (h : L.length * 2 ≤ j) : (encRs L)[j]? = none := List.getElem?_eq_none (by rw [encRs_len]; exact h)
theorem encRs_more (L : List (Int × Int)) (a : Int × Int) : encRs L ++ encR a = encRs (L ++ [a]) := by
  apply List.ext_getElem?
  intro j
  by_cases h : j < L.length * 2
  · rw [List.getElem?_append_left (by rw [encRs_len]; exact h), encRs_get _ h, encRs_get _ (by rw [List.length_append]; omega)]
    have e0 : L.getD (j / 2) (0, 0) = (L ++ [a]).getD (j / 2) (0, 0) := by rw [List.getD_eq_getElem?_getD, List.getD_eq_getElem?_getD, List.getElem?_append_left (by omega)]
    unfold cellR
    simp only
    rw [e0]
  · rw [List.getElem?_append_right (by rw [encRs_len]; omega), encRs_len]
    have e1 : (L ++ [a]).getD (j / 2) (0, 0) = if j / 2 = L.length then a else (0, 0) := by
      rw [List.getD_eq_getElem?_getD, List.getElem?_append_right (by omega)]
      by_cases c : j / 2 = L.length
      · rw [if_pos c, c, Nat.sub_self]; rfl
      · rw [if_neg c, List.getElem?_eq_none (by simp; omega)]; rfl
    by_cases h2 : j < L.length * 2 + 2
    · rw [encRs_get _ (by rw [List.length_append]; simp; omega)]
      unfold cellR
      simp only
      have e2 : (L ++ [a]).getD (j / 2) (0, 0) = a := by rw [e1, if_pos (by omega)]
      rw [e2]
      rcases (show j = L.length * 2 ∨ j = L.length * 2 + 1 by omega) with c | c
      · rw [if_pos (by omega), show j - L.length * 2 = 0 by omega]; rfl
      · rw [if_neg (by omega), show j - L.length * 2 = 1 by omega]; rfl
    · rw [encRs_no _ (by rw [List.length_append]; simp; omega)]
      exact List.getElem?_eq_none (by show 2 ≤ _; omega)
theorem encRs_cells (L : List (Int × Int)) : ∀ u ∈ encRs L, u.oneCell' = true := by
  intro u hu
  unfold encRs at hu
  obtain ⟨j, _, rfl⟩ := List.mem_map.1 hu
  rfl
theorem encR_cells (x : Int × Int) : ∀ u ∈ encR x, u.oneCell' = true := by
  intro u hu
  unfold encR at hu
  rcases List.mem_cons.1 hu with rfl | hu
  · rfl
  · obtain rfl := List.mem_singleton.1 hu
    rfl
theorem own_rings {w : World} {base e g cap n : Nat} {L : List (Int × Int)} (h : w.ownsRow base e 2 (.slice (some ⟨g, 0, none⟩) n cap) n (encRs L)) (hn : n = L.length) : OutZ w g (n * 2) (cellR fun p => L.getD p (0, 0)) := fun j hj => by
  refine ⟨?_, h.frozenAt j⟩
  rw [h.cellAt j hj]
  exact encRs_get L (by omega)
theorem encR_fld (x : Int × Int) (d : Nat → Int × Int) {j : Nat} (h : d (j / 2) = x) : (encR x)[j % 2]! = .int .i64 (cellR d j) := by
  unfold cellR
  rw [h]
  rcases (show j % 2 = 0 ∨ j % 2 = 1 by omega) with c | c
  · rw [c, if_pos rfl]; rfl
  · rw [c, if_neg (by decide)]; rfl
end Go.Proofs.YthbekddpnkammaaGreatDoor

namespace Go.Proofs.YthbekddpnkammaaGreatDoor
open Go.Shelf Go.RowKit Go.Lib Go.Sort

theorem holds_rings {w : World} {g n : Nat} {d : Nat → Int × Int} {A : Array (Int × Int)} (hs : A.size = n) (h : OutZ w g (n * 2) (cellR d)) (hd : ∀ p, p < n → A[p]! = d p) : HoldsK encR 2 w g 0 A := by
  intro j hj
  rw [size_flatK, hs] at hj
  obtain ⟨h1, h2⟩ := h j hj
  rw [Nat.zero_add]
  refine ⟨?_, h2⟩
  rw [h1, get_flatK _ _ _ _ (by rw [hs]; exact hj), encR_fld _ d (hd (j / 2) (by omega)).symm]
  rfl
theorem of_rings {w : World} {g n : Nat} {A : Array (Int × Int)} (hs : A.size = n) (h : HoldsK encR 2 w g 0 A) : OutZ w g (n * 2) (cellR fun p => A[p]!) := by
  intro j hj
  have h1 := h j (by rw [size_flatK, hs]; exact hj)
  rw [Nat.zero_add, get_flatK _ _ _ _ (by rw [hs]; exact hj), encR_fld _ (fun p => A[p]!) rfl] at h1
  exact h1
theorem wcmp_any (x y : Int × Int) (w : World) : Calls Tryz.prog 24 #[.agg #[.int .i64 x.1, .int .i64 x.2], .agg #[.int .i64 y.1, .int .i64 y.2]] w fun e w' => e = .returned (.int .i64 (Lib.compareInt x.1 y.1)) ∧ ∃ q os', w' = grow (w.drewN q) os' := by
  have HC := Lib.hid (fun w' => compare_any x.1 y.1 w')
  generalize Lib.compareInt x.1 y.1 = r at *
  obtain ⟨x1, x2⟩ := x
  obtain ⟨y1, y2⟩ := y
  go_enter Tryz.func24, Tryz.ntmps24
  go_wp2_with fail
  refine (HC.out _).mono ?_; rintro e w1 ⟨rfl, rfl⟩
  go_wp2
  go_ret
  exact ⟨rfl, 0, _, by rw [alloc_eq_grow, alloc_eq_grow, grow_grow]; rfl⟩
theorem wcmp_lays (blk off n : Nat) (w : World) : CmpLays Tryz.prog 24 #[] encR 2 (fun x y => Lib.compareInt x.1 y.1) blk off n w := fun _ _ _ _ x y => wcmp_any x y _
theorem ltR (x y : Int × Int) : ltOf (fun x y : Int × Int => Lib.compareInt x.1 y.1) x y = decide (x.1 < y.1) := by
  unfold ltOf Lib.compareInt
  by_cases h1 : x.1 < y.1
  · simp [h1]
  · by_cases h2 : y.1 < x.1 <;> simp [h1, h2]
theorem swoR : SWO (ltOf fun x y : Int × Int => Lib.compareInt x.1 y.1) where
  irrefl x := by rw [ltR]; simp
  trans x y z h1 h2 := by rw [ltR] at *; simp at *; omega
  ntrans x y z h1 h2 := by rw [ltR] at *; simp at *; omega
theorem below_sortR {w : World} {g n : Nat} {A : Array (Int × Int)} {os : Array Obj} (hgw : g < w.heap.size) : Below g w (sortWorldK encR 2 w g 0 n A os) := by
  unfold sortWorldK putRowK putRow grow mapBlock
  refine ⟨rfl, rfl, rfl, ?_, fun k hk => ?_⟩
  · show w.heap.size ≤ ((Go.Sort.ahead w n).heap.modify g _ ++ os).size
    rw [Array.size_append, Array.size_modify]
    exact Nat.le_add_right _ _
  · show ((Go.Sort.ahead w n).heap.modify g _ ++ os)[k]? = _
    rw [Array.getElem?_append_left (by rw [Array.size_modify]; show k < w.heap.size; omega), Array.getElem?_modify, if_neg (by omega)]
    rfl
/-- Rings sorted by their distance. -/
theorem sortR_any (L : List (Int × Int)) (g cap : Nat) (hn : L.length ≤ 100000) (w : World) (hg : g < w.heap.size) (h : OutZ w g (L.length * 2) (cellR fun p => L.getD p (0, 0))) :
    Calls Tryz.prog 23 #[.slice (some ⟨g, 0, none⟩) L.length cap, .func (.func 24) #[] #[]] w fun e w' =>
      e = .returned (.tuple #[]) ∧ ∃ d : Nat → Int × Int, OutZ w' g (L.length * 2) (cellR d) ∧ L.Perm (preD d L.length) ∧ (∀ i j, i < j → j < L.length → (d i).1 ≤ (d j).1) ∧ Below g w w' := by
  have hsz : L.toArray.size = L.length := by simp
  have hH : HoldsK encR 2 w g 0 L.toArray := holds_rings hsz h (fun p hp => by
    rw [List.getElem!_toArray, List.getElem!_eq_getElem?_getD, List.getD_eq_getElem?_getD]
    rfl)
  have eg : ∀ args w, (callFunc 24 args).run Tryz.prog w = .ok (.enter 24 args) w := fun args w => Tryz.call24 args w
  have hcon := AnyQ.slices_SortFunc Tryz.sortRing 2 Tryz.isAgg64 Tryz.sizeOf64 encR (fun _ => rfl) encR_cells (fun x y => Lib.compareInt x.1 y.1) swoR 24 #[] g 0 cap L.toArray w eg (wcmp_lays g 0 _ w) hH hg (by rw [hsz]; omega)
  rw [hsz] at hcon
  change Calls Tryz.prog 23 _ _ _ at hcon
  refine hcon.mono ?_
  rintro e w' ⟨he, d', n, os, hP, hS, rfl⟩
  have hd : d'.size = L.length := by rw [hP.1, hsz]
  have hperm : L.Perm d'.toList := by
    have := hP.2.2
    rw [show d'.extract 0 L.length = d' by have h := Array.extract_size (xs := d'); rwa [hd] at h, show L.toArray.extract 0 L.length = L.toArray by have h := Array.extract_size (xs := L.toArray); rwa [hsz] at h] at this
    exact (by simpa using this : d'.toList.Perm L).symm
  have hpre : preD (fun p => d'[p]!) L.length = d'.toList := by
    apply List.ext_getElem?
    intro i
    unfold preD
    rw [List.getElem?_map]
    by_cases c : i < L.length
    · rw [List.getElem?_range c, Option.map_some, Array.getElem?_toList, Array.getElem?_eq_getElem (by omega)]
      rw [getElem!_pos d' i (by omega)]
    · rw [List.getElem?_eq_none (by rw [List.length_range]; omega), List.getElem?_eq_none (by rw [Array.length_toList]; omega)]
      rfl
  refine ⟨he, fun p => d'[p]!, ?_, by rw [hpre]; exact hperm, fun i j hij hj => ?_, below_sortR hg⟩
  · exact of_rings hd (holdsK_sortWorldK_c encR 2 w g 0 L.toArray d' n os hH hg (by rw [hd, hsz]))
  · have := hS i j (Nat.zero_le _) hij hj
    rw [ltR] at this
    simpa using this
end Go.Proofs.YthbekddpnkammaaGreatDoor
