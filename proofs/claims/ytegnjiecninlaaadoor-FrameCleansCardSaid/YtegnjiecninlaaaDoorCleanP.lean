/- Cleaned pictures: plain laws. -/
import Derived.Test.YtegnjiecninlaaaDoorPicE
namespace Go.Proofs.YtegnjiecninlaaaDoor
open Go.RowKit

def sumP (f : Nat → Int) : Nat → Int
  | 0 => 0
  | k + 1 => if 0 < f k then sumP f k + f k else sumP f k
def cntP (f : Nat → Int) : Nat → Nat
  | 0 => 0
  | k + 1 => if 0 < f k then cntP f k + 1 else cntP f k
theorem sumP_bd {f : Nat → Int} {n : Nat} (h : cntOk f n) : ∀ k, k ≤ n → cntP f k ≤ k ∧ (cntP f k : Int) ≤ sumP f k ∧ sumP f k ≤ 65535 * (cntP f k : Int) := by
  intro k
  induction k with
  | zero => intro _; simp [cntP, sumP]
  | succ k ih =>
    intro hk
    have := ih (by omega)
    have := h k (by omega)
    unfold sumP cntP
    split <;> omega
/-- The light at one pixel. -/
def vF (k d f m : Int) : Int := if 0 < f ∧ 0 < k - d then (if (2 * (k - d) * m + f) / (2 * f) ≤ 65535 then (2 * (k - d) * m + f) / (2 * f) else 65535) else 0
theorem vF_no {k d f m : Int} (h : ¬ (0 < f ∧ 0 < k - d)) : vF k d f m = 0 := if_neg h
theorem vF_in {k d f m : Int} (h1 : 0 < f) (h2 : 0 < k - d) (h : (2 * (k - d) * m + f) / (2 * f) ≤ 65535) : vF k d f m = (2 * (k - d) * m + f) / (2 * f) := by unfold vF; rw [if_pos ⟨h1, h2⟩, if_pos h]
theorem vF_top {k d f m : Int} (h1 : 0 < f) (h2 : 0 < k - d) (h : ¬ (2 * (k - d) * m + f) / (2 * f) ≤ 65535) : vF k d f m = 65535 := by unfold vF; rw [if_pos ⟨h1, h2⟩, if_neg h]
theorem half_up {D f : Int} (hf : 0 < f) : (2 * D + f) / (2 * f) = if f ≤ 2 * (D - D / f * f) then D / f + 1 else D / f := by
  have h1 := Int.mul_ediv_add_emod D f
  have h2 := Int.emod_nonneg D (by omega : f ≠ 0)
  have h3 := Int.emod_lt_of_pos D hf
  rw [Int.mul_comm f] at h1
  generalize D / f = q at *
  generalize D % f = r at *
  by_cases c : f ≤ 2 * (D - q * f)
  · rw [if_pos c]
    have e : 2 * D + f = (2 * r - f) + 2 * f * (q + 1) := by
      rw [Int.mul_add, Int.mul_one, Int.mul_assoc, Int.mul_comm f q]; omega
    rw [e, Int.add_mul_ediv_left _ _ (by omega), Int.ediv_eq_zero_of_lt (by omega) (by omega), Int.zero_add]
  · rw [if_neg c]
    have e : 2 * D + f = (2 * r + f) + 2 * f * q := by
      rw [Int.mul_assoc, Int.mul_comm f q]; omega
    rw [e, Int.add_mul_ediv_left _ _ (by omega), Int.ediv_eq_zero_of_lt (by omega) (by omega), Int.zero_add]
theorem half_zero {f : Int} (hf : 0 < f) : f / (2 * f) = 0 := Int.ediv_eq_zero_of_lt (by omega) (by omega)
/-- The counts of the cleaned picture; its full pixels. -/
def VL (f0 f1 f2 : Nat → Int) (m : Int) : Nat → List Int
  | 0 => []
  | k + 1 => VL f0 f1 f2 m k ++ [vF (f0 k) (f1 k) (f2 k) m]
theorem VL_len (f0 f1 f2 : Nat → Int) (m : Int) (k : Nat) : (VL f0 f1 f2 m k).length = k := by
  induction k with
  | zero => rfl
  | succ k ih => rw [VL, List.length_append, ih]; rfl
def FL (f0 : Nat → Int) (full : Int) : Nat → List Int
  | 0 => []
  | k + 1 => if full ≤ f0 k then FL f0 full k ++ [(k : Int)] else FL f0 full k
theorem FL_yes {f0 : Nat → Int} {full : Int} {k : Nat} (h : full ≤ f0 k) : FL f0 full (k + 1) = FL f0 full k ++ [(k : Int)] := if_pos h
theorem FL_no {f0 : Nat → Int} {full : Int} {k : Nat} (h : ¬ full ≤ f0 k) : FL f0 full (k + 1) = FL f0 full k := if_neg h
theorem FL_len (f0 : Nat → Int) (full : Int) (k : Nat) : (FL f0 full k).length ≤ k := by
  induction k with
  | zero => exact Nat.le_refl _
  | succ k ih =>
    rw [FL]
    split
    · rw [List.length_append]; exact Nat.succ_le_succ ih
    · omega
/-- The pictures fit. -/
def fits (W0 H0 W1 H1 W2 H2 full : Int) (cnt : Nat) : Prop := W0 = W1 ∧ H0 = H1 ∧ W0 = W2 ∧ H0 = H2 ∧ 1 ≤ full ∧ full ≤ 65535 ∧ 0 < cnt

/-! ### cells -/
def Blk (w : World) (b : Nat) (l : List Value) : Prop := ∀ j v, l[j]? = some v → w.cell? ⟨b, j, none⟩ = some v
theorem Blk.below {w w' : World} {b : Nat} {l : List Value} (h : Blk w b l) (hb : Below w.heap.size w w') (hlt : b < w.heap.size) : Blk w' b l := fun j v hj => by
  rw [hb.cell (p := ⟨b, j, none⟩) hlt]; exact h j v hj
theorem Blk.grown {w w' : World} {b : Nat} {l : List Value} (h : Blk w b l) {row : Option Nat} (hg : w.grownBy w' row) (hlt : b < w.heap.size) (hr : row ≠ some b) : Blk w' b l := fun j v hj => by
  rw [World.cell?_of_block (a := ⟨b, j, none⟩) (hg.block b hlt (fun e => hr e.symm))]; exact h j v hj
theorem Blk.store {w : World} {b : Nat} {l : List Value} (h : Blk w b l) {a : Addr} {v : Value} (hne : a.block ≠ b) : Blk (w.setCell a v) b l := fun j u hj => by
  rw [World.cell?_setCell_other _ _ _ _ (by intro e; apply hne; rw [e])]; exact h j u hj
/-- What a call of Clean has laid. -/
structure CW (w : World) (s p : List Value) (r0 r1 r2 : Value) (wr : World) : Prop where
  set' : Blk wr w.heap.size s
  pic : Blk wr (w.heap.size + 1) p
  c0 : wr.cell? ⟨w.heap.size + 2, 0, none⟩ = some r0
  c1 : wr.cell? ⟨w.heap.size + 2, 1, none⟩ = some r1
  c2 : wr.cell? ⟨w.heap.size + 2, 2, none⟩ = some r2
  f0 : wr.frozen? ⟨w.heap.size + 2, 0, none⟩ = false
  f1 : wr.frozen? ⟨w.heap.size + 2, 1, none⟩ = false
  f2 : wr.frozen? ⟨w.heap.size + 2, 2, none⟩ = false
  bel : Below w.heap.size w wr
  size : w.heap.size + 4 ≤ wr.heap.size
theorem CW.below {w : World} {s p : List Value} {r0 r1 r2 : Value} {wr w' : World} (h : CW w s p r0 r1 r2 wr) (hb : Below wr.heap.size wr w') : CW w s p r0 r1 r2 w' := by
  have hs := h.size
  have hs2 := hb.size
  refine ⟨h.set'.below hb (by omega), h.pic.below hb (by omega), ?_, ?_, ?_, ?_, ?_, ?_, below_step h.bel hb, by omega⟩
  · rw [hb.cell (p := ⟨w.heap.size + 2, 0, none⟩) (by simp; omega)]; exact h.c0
  · rw [hb.cell (p := ⟨w.heap.size + 2, 1, none⟩) (by simp; omega)]; exact h.c1
  · rw [hb.cell (p := ⟨w.heap.size + 2, 2, none⟩) (by simp; omega)]; exact h.c2
  · rw [hb.frozen (p := ⟨w.heap.size + 2, 0, none⟩) (by simp; omega)]; exact h.f0
  · rw [hb.frozen (p := ⟨w.heap.size + 2, 1, none⟩) (by simp; omega)]; exact h.f1
  · rw [hb.frozen (p := ⟨w.heap.size + 2, 2, none⟩) (by simp; omega)]; exact h.f2
theorem CW.alloc {w : World} {s p : List Value} {r0 r1 r2 : Value} {wr : World} (h : CW w s p r0 r1 r2 wr) (o : Obj) : CW w s p r0 r1 r2 (wr.alloc o) := h.below ((Below.refl _ _).alloc (Nat.le_refl _) _)
theorem CW.grown {w : World} {s p : List Value} {r0 r1 r2 : Value} {wr w' : World} (h : CW w s p r0 r1 r2 wr) {row : Option Nat} (hg : wr.grownBy w' row) (hr : ∀ k, row = some k → w.heap.size + 4 ≤ k) : CW w s p r0 r1 r2 w' := by
  have hs := h.size
  have hs2 := hg.size
  have hk := hg.block (w.heap.size + 2) (by omega) (fun e => by have := hr _ e.symm; omega)
  refine ⟨h.set'.grown hg (by omega) (fun e => by have := hr _ e; omega), h.pic.grown hg (by omega) (fun e => by have := hr _ e; omega), ?_, ?_, ?_, ?_, ?_, ?_, h.bel.grown hg (by omega) (fun k e => by have := hr k e; omega), by omega⟩
  · rw [World.cell?_of_block (a := ⟨w.heap.size + 2, 0, none⟩) hk]; exact h.c0
  · rw [World.cell?_of_block (a := ⟨w.heap.size + 2, 1, none⟩) hk]; exact h.c1
  · rw [World.cell?_of_block (a := ⟨w.heap.size + 2, 2, none⟩) hk]; exact h.c2
  · rw [World.frozen?_of_block (a := ⟨w.heap.size + 2, 0, none⟩) hk]; exact h.f0
  · rw [World.frozen?_of_block (a := ⟨w.heap.size + 2, 1, none⟩) hk]; exact h.f1
  · rw [World.frozen?_of_block (a := ⟨w.heap.size + 2, 2, none⟩) hk]; exact h.f2
theorem CW.store2 {w : World} {s p : List Value} {r0 r1 r2 : Value} {wr : World} (h : CW w s p r0 r1 r2 wr) (v : Value) : CW w s p r0 r1 v (wr.setCell ⟨w.heap.size + 2, 2, none⟩ v) := by
  refine ⟨h.set'.store (by simp), h.pic.store (by simp), ?_, ?_, World.cell?_setCell_same _ _ _ h.c2, ?_, ?_, ?_, h.bel.setCell (by simp) _, by simpa using h.size⟩
  · rw [World.cell?_setCell_other _ _ _ _ (by simp)]; exact h.c0
  · rw [World.cell?_setCell_other _ _ _ _ (by simp)]; exact h.c1
  all_goals rw [World.frozen?_setCell]
  · exact h.f0
  · exact h.f1
  · exact h.f2
end Go.Proofs.YtegnjiecninlaaaDoor
