/- The lower middle as the reference finds it: MedianOf. -/
import Derived.Test.YthbekddpnkammaaDoorInts
import Derived.Test.YthbekddpnkammaaDoorMedP
namespace Go.Proofs.YthbekddpnkammaaDoor
open Go.RowKit

/-- The first n values of a row. -/
def upto (f : Nat → Int) (n : Nat) : List Int := (List.range n).map f
theorem upto_succ (f : Nat → Int) (k : Nat) : upto f (k + 1) = upto f k ++ [f k] := by simp [upto, List.range_succ]
theorem upto_len (f : Nat → Int) (k : Nat) : (upto f k).length = k := by simp [upto]
theorem upto_congr {f g : Nat → Int} {n : Nat} (h : ∀ j, j < n → f j = g j) : upto f n = upto g n := List.map_congr_left (fun j hj => h j (List.mem_range.1 hj))
theorem upto_list (L : List Int) : upto (fun j => L.getD j 0) L.length = L := by
  apply List.ext_getElem
  · simp [upto]
  · intro i h1 h2
    simp [upto, h2]
theorem mem_upto {f : Nat → Int} {n : Nat} {x : Int} : x ∈ upto f n ↔ ∃ j, j < n ∧ x = f j := by
  unfold upto
  rw [List.mem_map]
  exact ⟨fun ⟨j, h1, h2⟩ => ⟨j, List.mem_range.1 h1, h2.symm⟩, fun ⟨j, h1, h2⟩ => ⟨j, List.mem_range.2 h1, h2.symm⟩⟩
theorem ltC_succ (f : Nat → Int) (k : Nat) (v : Int) : ltC (upto f (k + 1)) v = ltC (upto f k) v + if f k < v then 1 else 0 := by
  unfold ltC; rw [upto_succ, List.countP_append]; simp [List.countP_cons]
theorem eqC_succ (f : Nat → Int) (k : Nat) (v : Int) : eqC (upto f (k + 1)) v = eqC (upto f k) v + if f k = v then 1 else 0 := by
  unfold eqC; rw [upto_succ, List.countP_append]; simp [List.countP_cons]
theorem ltC_le (f : Nat → Int) (k : Nat) (v : Int) : ltC (upto f k) v ≤ k := by
  have := List.countP_le_length (p := fun x => decide (x < v)) (l := upto f k)
  rw [upto_len] at this; exact this
theorem eqC_le (f : Nat → Int) (k : Nat) (v : Int) : eqC (upto f k) v ≤ k := by
  have := List.countP_le_length (p := fun x => decide (x = v)) (l := upto f k)
  rw [upto_len] at this; exact this
theorem mid_some (f : Nat → Int) {n : Nat} (h : 0 < n) : ∃ i, i < n ∧ isMid (upto f n) (f i) := by
  have hn : upto f n ≠ [] := fun e => by have := upto_len f n; rw [e] at this; simp at this; omega
  obtain ⟨i, h1, h2⟩ := mem_upto.1 (medL_mem hn)
  exact ⟨i, h1, by rw [← h2]; exact medL_mid hn⟩
theorem mid_med (f : Nat → Int) {n i : Nat} (hm : isMid (upto f n) (f i)) (h : 0 < n) : f i = medL (upto f n) := by
  have hn : upto f n ≠ [] := fun e => by have := upto_len f n; rw [e] at this; simp at this; omega
  exact mid_one hm (medL_mid hn)
theorem mid_def (f : Nat → Int) (n : Nat) (v : Int) : isMid (upto f n) v ↔ (ltC (upto f n) v : Int) ≤ ((n : Int) - 1) / 2 ∧ ((n : Int) - 1) / 2 < (ltC (upto f n) v : Int) + (eqC (upto f n) v : Int) ∨ n = 0 ∧ isMid (upto f n) v := by
  unfold isMid
  rw [upto_len]
  omega

set_option maxRecDepth 10000 in
set_option maxHeartbeats 2000000 in
theorem medianOf_any (f : Nat → Int) (a : Option Addr) (n cap : Nat) (h0 : 0 < n) (hn : n ≤ 1000000) (w : World) (h : IRow w a n f) :
    Calls Tryd.prog 28 #[.slice a n cap] w fun e w' => e = .returned (.int .i64 (medL (upto f n))) ∧ Below w.heap.size w w' := by
  have HA := Lib.hid (fun j (hj : j < n) => h.at hj)
  have HM := Lib.hid (fun i (hm : isMid (upto f n) (f i)) => mid_med f hm h0)
  have HS := Lib.hid (mid_some f h0)
  clear h
  go_enter Tryd.func28, Tryd.ntmps28
  go_wp2
  go_loopw [5] (fun i wr => ∃ k : Nat, k ≤ n ∧ i = .int .i64 k ∧ Hid (∀ j, j < k → ¬ isMid (upto f n) (f j)) ∧ Hid (Below w.heap.size w wr)) (fun i _ => n - (intOf i).toNat)
  case atStart => exact ⟨0, Nat.zero_le _, rfl, Lib.hid (fun j hj => by omega), Lib.hid (Below.refl _ _)⟩
  case round =>
    obtain ⟨i, hi, rfl, hN, hw⟩ := hrel
    by_cases hlt : i < n
    · go_wp2
      go_loopw [6, 7, 8] (fun b s j wr => ∃ k : Nat, k ≤ n ∧ j = .int .i64 k ∧ b = .int .i64 (ltC (upto f k) (f i) : Nat) ∧ s = .int .i64 (eqC (upto f k) (f i) : Nat) ∧ Hid (Below w.heap.size w wr)) (fun _ _ j _ => n - (intOf j).toNat)
      case atStart => exact ⟨0, Nat.zero_le _, rfl, rfl, rfl, hw⟩
      case round =>
        clear hw
        obtain ⟨j, hj, rfl, rfl, rfl, hw⟩ := hrel
        obtain ⟨ba, oa, e1, hba, ci⟩ := HA.out i hlt
        have c1 : wr.cell? ⟨ba, oa + i, none⟩ = some (.int .i64 (f i)) := by rw [hw.out.cell (p := ⟨ba, oa + i, none⟩) hba]; exact ci
        subst e1
        have hb1 := ltC_le f j (f i)
        have hb2 := eqC_le f j (f i)
        by_cases hjt : j < n
        · obtain ⟨bb, ob, e2, hbb, cj⟩ := HA.out j hjt
          obtain ⟨rfl, rfl⟩ : ba = bb ∧ oa = ob := by cases e2; exact ⟨rfl, rfl⟩
          have c2 : wr.cell? ⟨ba, oa + j, none⟩ = some (.int .i64 (f j)) := by rw [hw.out.cell (p := ⟨ba, oa + j, none⟩) hbb]; exact cj
          have S1 := Lib.hid (ltC_succ f j (f i))
          have S2 := Lib.hid (eqC_succ f j (f i))
          clear ci cj e2
          generalize ltC (upto f j) (f i) = B at *
          generalize eqC (upto f j) (f i) = S at *
          rcases Int.lt_trichotomy (f j) (f i) with d1 | d1 | d1
          · have T1 : Hid (ltC (upto f (j + 1)) (f i) = B + 1) := Lib.hid (by rw [S1.out, if_pos d1])
            have T2 : Hid (eqC (upto f (j + 1)) (f i) = S) := Lib.hid (by rw [S2.out, if_neg (by omega)]; rfl)
            have d2 : (f j == f i) = false := by simp; omega
            have d3 : decide (f j < f i) = true := by simpa using d1
            clear S1 S2
            generalize f j = x at *
            generalize f i = y at *
            go_wp2
            go_quiet (fail)
            go_wp2
            go_quiet (fail)
            go_wp2
            go_roundw
            case rel => exact ⟨j + 1, by omega, by go_num, by rw [T1.out]; go_num, by rw [T2.out], Lib.hid (below_drewN hw.out _)⟩
            case measure => simp [intOf]; omega
          · have T1 : Hid (ltC (upto f (j + 1)) (f i) = B) := Lib.hid (by rw [S1.out, if_neg (by omega)]; rfl)
            have T2 : Hid (eqC (upto f (j + 1)) (f i) = S + 1) := Lib.hid (by rw [S2.out, if_pos d1])
            have d2 : (f j == f i) = true := by simpa using d1
            have d3 : decide (f j < f i) = false := by simp; omega
            clear S1 S2
            generalize f j = x at *
            generalize f i = y at *
            go_wp2
            go_quiet (fail)
            go_wp2
            go_quiet (fail)
            go_wp2
            go_roundw
            case rel => exact ⟨j + 1, by omega, by go_num, by rw [T1.out], by rw [T2.out]; go_num, Lib.hid (below_drewN hw.out _)⟩
            case measure => simp [intOf]; omega
          · have T1 : Hid (ltC (upto f (j + 1)) (f i) = B) := Lib.hid (by rw [S1.out, if_neg (by omega)]; rfl)
            have T2 : Hid (eqC (upto f (j + 1)) (f i) = S) := Lib.hid (by rw [S2.out, if_neg (by omega)]; rfl)
            have d2 : (f j == f i) = false := by simp; omega
            have d3 : decide (f j < f i) = false := by simp; omega
            clear S1 S2
            generalize f j = x at *
            generalize f i = y at *
            go_wp2
            go_quiet (fail)
            go_wp2
            go_quiet (fail)
            go_wp2
            go_roundw
            case rel => exact ⟨j + 1, by omega, by go_num, by rw [T1.out], by rw [T2.out], Lib.hid (below_drewN hw.out _)⟩
            case measure => simp [intOf]; omega
        · obtain rfl : j = n := by omega
          have HD := Lib.hid ((mid_def f j (f i)))
          by_cases hm : isMid (upto f j) (f i)
          · have HR := Lib.hid (HM.out i hm)
            obtain ⟨m1, m2⟩ := hm
            rw [upto_len] at m1 m2
            have m1' : decide ((ltC (upto f j) (f i) : Int) ≤ ((j : Int) - 1) / 2) = true := by simp; omega
            have m2' : decide (((j : Int) - 1) / 2 < (ltC (upto f j) (f i) : Int) + (eqC (upto f j) (f i) : Int)) = true := by simp; omega
            clear m1 m2 HD hN ci
            generalize ltC (upto f j) (f i) = B at *
            generalize eqC (upto f j) (f i) = S at *
            go_wp2
            go_ret
            exact ⟨by rw [HR.out]; rfl, hw.out⟩
          · have HN2 : Hid (∀ k, k < i + 1 → ¬ isMid (upto f j) (f k)) := Lib.hid (fun k hk => by
              rcases Nat.lt_or_ge k i with h | h
              · exact hN.out k h
              · rw [show k = i by omega]; exact hm)
            have hm' : ¬ (ltC (upto f j) (f i) ≤ (j - 1) / 2 ∧ (j - 1) / 2 < ltC (upto f j) (f i) + eqC (upto f j) (f i)) := by
              have := hm
              unfold isMid at this
              rw [upto_len] at this
              exact this
            clear hm HD hN ci
            generalize ltC (upto f j) (f i) = B at *
            generalize eqC (upto f j) (f i) = S at *
            by_cases m1 : B ≤ (j - 1) / 2
            · have m2 : ¬ ((j - 1) / 2 < B + S) := fun h => hm' ⟨m1, h⟩
              have m1' : decide ((B : Int) ≤ ((j : Int) - 1) / 2) = true := by simp; omega
              have m2' : decide (((j : Int) - 1) / 2 < (B : Int) + (S : Int)) = false := by simp; omega
              clear hm' m1 m2
              go_wp2
              go_roundw
              case rel => exact ⟨i + 1, by omega, by go_num, HN2, hw⟩
              case measure => simp [intOf]; omega
            · have m1' : decide ((B : Int) ≤ ((j : Int) - 1) / 2) = false := by simp; omega
              clear hm' m1
              go_wp2
              go_roundw
              case rel => exact ⟨i + 1, by omega, by go_num, HN2, hw⟩
              case measure => simp [intOf]; omega
    · exfalso
      obtain ⟨k, h1, h2⟩ := HS.out
      exact hN.out k (by omega) h2
end Go.Proofs.YthbekddpnkammaaDoor
