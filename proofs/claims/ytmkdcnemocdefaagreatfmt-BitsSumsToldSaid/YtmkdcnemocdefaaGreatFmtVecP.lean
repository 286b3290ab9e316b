/- Rows of words added, taken away, shifted: what each word is; plain. -/
import Derived.Test.YtmkdcnemocdefaaGreatFmtTab
import Derived.LaidEqlPtr
import Derived.Laws.FloatArith
namespace Go.Proofs.YtmkdcnemocdefaaGreatFmt

/-- A row with words laid into it from place o on. -/
def put (f : Nat → Nat) (o n : Nat) (z : Nat → Nat) : Nat → Nat := fun j => if o ≤ j ∧ j < o + n then z (j - o) else f j
theorem put_none (f : Nat → Nat) (o : Nat) (z : Nat → Nat) : put f o 0 z = f := by
  funext j; unfold put; rw [if_neg (by omega)]
theorem put_in (f : Nat → Nat) (o n : Nat) (z : Nat → Nat) (j : Nat) (h : j < n) : put f o n z (o + j) = z j := by
  unfold put; rw [if_pos ⟨by omega, by omega⟩]; congr 1; omega
theorem put_out (f : Nat → Nat) (o n : Nat) (z : Nat → Nat) (j : Nat) (h : j < o ∨ o + n ≤ j) : put f o n z j = f j := by
  unfold put; rw [if_neg (by omega)]
theorem put_step (f : Nat → Nat) (o n : Nat) (z : Nat → Nat) : upd (put f o n z) (o + n) (z n) = put f o (n + 1) z := by
  funext j
  unfold upd put
  by_cases h : j = o + n
  · subst h
    rw [if_pos rfl, if_pos ⟨by omega, by omega⟩]; congr 1; omega
  · rw [if_neg h]
    by_cases g : o ≤ j ∧ j < o + n
    · rw [if_pos g, if_pos ⟨g.1, by omega⟩]
    · rw [if_neg g, if_neg (by omega)]
/-- The carry into a word of a sum; the word. -/
def addC (x y : Nat → Nat) : Nat → Nat
  | 0 => 0
  | i + 1 => (x i + y i + addC x y i) / 18446744073709551616
def addW (x y : Nat → Nat) (i : Nat) : Nat := (x i + y i + addC x y i) % 18446744073709551616
theorem addC_le {x y : Nat → Nat} : ∀ {n}, Wds x n → Wds y n → addC x y n ≤ 1
  | 0, _, _ => by simp [addC]
  | n + 1, hx, hy => by
    have i := addC_le (hx.le (Nat.le_succ n)) (hy.le (Nat.le_succ n))
    have a := hx n (by omega)
    have b := hy n (by omega)
    rw [addC]
    omega
theorem addW_num (x y : Nat → Nat) : ∀ n, num (addW x y) n + addC x y n * 2 ^ (64 * n) = num x n + num y n
  | 0 => by simp [num, addC]
  | n + 1 => num_step x y (addW x y) n (addC x y n) (addW_num x y n) rfl
theorem addW_wds (x y : Nat → Nat) (n : Nat) : Wds (addW x y) n := fun i _ => Nat.mod_lt _ (by decide)
/-- What is borrowed; the word. -/
def subC (x y : Nat → Nat) : Nat → Nat
  | 0 => 0
  | i + 1 => if x i < y i + subC x y i then 1 else 0
def subW (x y : Nat → Nat) (i : Nat) : Nat := (x i + 18446744073709551616 - y i - subC x y i) % 18446744073709551616
theorem subC_le (x y : Nat → Nat) : ∀ n, subC x y n ≤ 1
  | 0 => by simp [subC]
  | n + 1 => by rw [subC]; split <;> omega
theorem subW_num {x y : Nat → Nat} : ∀ {n}, Wds x n → Wds y n → num (subW x y) n + num y n = num x n + subC x y n * 2 ^ (64 * n)
  | 0, _, _ => by simp [num, subC]
  | n + 1, hx, hy => by
    refine num_sub_step x y (subW x y) n (subC x y n) _ (subW_num (hx.le (Nat.le_succ n)) (hy.le (Nat.le_succ n))) ?_
    have a := hx n (by omega)
    have b := hy n (by omega)
    have c := subC_le x y n
    rw [subC]
    unfold subW
    split <;> omega
theorem subW_wds (x y : Nat → Nat) (n : Nat) : Wds (subW x y) n := fun i _ => Nat.mod_lt _ (by decide)
/-- A row of one word. -/
def one (y : Nat) : Nat → Nat := fun i => if i = 0 then y else 0
theorem one_num (y : Nat) : ∀ n, num (one y) (n + 1) = y
  | 0 => by simp [num, one]
  | n + 1 => by rw [num, one_num y n]; simp [one]
theorem one_wds (y n : Nat) (h : y < 2 ^ 64) : Wds (one y) n := fun i _ => by unfold one; split <;> omega
/-- Where nothing is carried the words stand. -/
theorem add_rest {x : Nat → Nat} {y n i : Nat} (hx : Wds x n) (hi : i + 1 ≤ n) (h : addC x (one y) (i + 1) = 0) : ∀ b, i + 1 + b ≤ n → addC x (one y) (i + 1 + b) = 0
  | 0, _ => h
  | b + 1, hb => by
    have p := add_rest hx hi h b (by omega)
    rw [← Nat.add_assoc, addC, p]
    have a := hx (i + 1 + b) (by omega)
    unfold one
    rw [if_neg (by omega)]
    omega
theorem add_rest_w {x : Nat → Nat} {y n i j : Nat} (hx : Wds x n) (h : addC x (one y) (i + 1) = 0) (hi : i < j) (hj : j < n) : addW x (one y) j = x j := by
  obtain ⟨b, rfl⟩ : ∃ b, j = i + 1 + b := ⟨j - i - 1, by omega⟩
  have p := add_rest hx (by omega) h b (by omega)
  have a := hx (i + 1 + b) (by omega)
  unfold addW
  rw [p]
  unfold one
  rw [if_neg (by omega)]
  omega
theorem sub_rest {x : Nat → Nat} {y i : Nat} (h : subC x (one y) (i + 1) = 0) : ∀ b, subC x (one y) (i + 1 + b) = 0
  | 0 => h
  | b + 1 => by
    have p := sub_rest h b
    have o : one y (i + 1 + b) = 0 := if_neg (by omega)
    rw [← Nat.add_assoc, subC, p, o, if_neg (by omega)]
theorem sub_rest_w {x : Nat → Nat} {y n i j : Nat} (hx : Wds x n) (h : subC x (one y) (i + 1) = 0) (hi : i < j) (hj : j < n) : subW x (one y) j = x j := by
  obtain ⟨b, rfl⟩ : ∃ b, j = i + 1 + b := ⟨j - i - 1, by omega⟩
  have p := sub_rest h b
  have a := hx (i + 1 + b) (by omega)
  unfold subW
  rw [p]
  unfold one
  rw [if_neg (by omega)]
  omega
/-- A word of a shift to the left. -/
def shlW (x : Nat → Nat) (s i : Nat) : Nat := x i * 2 ^ s % 18446744073709551616 + shc x s i
theorem shlW_wds {x : Nat → Nat} {n s : Nat} (hx : Wds x n) (hs : s ≤ 64) : Wds (shlW x s) n := fun i hi => shl_word x s i hs (fun j hj => hx j (by omega))
theorem shlW_num (x : Nat → Nat) (s : Nat) (hs : s ≤ 64) (n : Nat) : num (shlW x s) n + shc x s n * 2 ^ (64 * n) = num x n * 2 ^ s :=
  num_shl x (shlW x s) s hs n (fun _ _ => rfl)
end Go.Proofs.YtmkdcnemocdefaaGreatFmt

namespace Go.Proofs.YtmkdcnemocdefaaGreatFmt
open Go.RowKit

/-- A row of words. -/
def WR (w : World) (b o n : Nat) (x : Nat → Nat) : Prop := ∀ j, j < n → w.cell? ⟨b, o + j, none⟩ = some (.int .u64 (x j : Int))
/-- How many words are left when the noughts at the top are struck. -/
def NormOf (x : Nat → Nat) (n k : Nat) : Prop := k ≤ n ∧ (∀ j, k ≤ j → j < n → x j = 0) ∧ (k = 0 ∨ x (k - 1) ≠ 0)

theorem norm_any' (b o n cap : Nat) (hn : n ≤ cap) (hcap : cap ≤ 9223372036854775807) (x : Nat → Nat) (w : World) (h : WR w b o n x) :
    Calls Tryz.prog 64 #[.slice (some ⟨b, o, none⟩) n cap] w fun e w' => ∃ k, e = .returned (.slice (some ⟨b, o, none⟩) k cap) ∧ NormOf x n k ∧ w' = w := by
  have H := Lib.hid h
  clear h
  go_enter Tryz.func64, Tryz.ntmps64
  go_wp2
  go_loopw [3] (fun i wr => ∃ k : Nat, k ≤ n ∧ i = .int .i64 k ∧ Hid (∀ j, k ≤ j → j < n → x j = 0) ∧ wr = w) (fun i _ => (intOf i).toNat)
  case atStart => exact ⟨n, Nat.le_refl _, rfl, Lib.hid (fun j h1 h2 => by omega), rfl⟩
  case round =>
    obtain ⟨k, hk, rfl, hz, rfl⟩ := hrel
    by_cases h0 : k = 0
    · subst h0
      go_wp2
      go_ret
      exact ⟨0, rfl, ⟨Nat.zero_le _, hz.out, Or.inl rfl⟩, rfl⟩
    · obtain ⟨m, rfl⟩ : ∃ m, k = m + 1 := ⟨k - 1, by omega⟩
      have hc := H.out m (by omega)
      have e1 : ((m + 1 : Nat) : Int) - 1 = (m : Int) := by omega
      by_cases hx : x m = 0
      · rw [hx] at hc
        go_wp2
        refine ⟨⟨m, by omega, rfl, Lib.hid (fun j h1 h2 => ?_), trivial⟩, by simp [intOf]⟩
        rcases Nat.lt_or_ge m j with h | h
        · exact hz.out j h h2
        · rw [show j = m by omega]; exact hx
      · have hx' : ¬ ((x m : Int) = 0) := by omega
        go_wp2
        go_ret
        exact ⟨m + 1, rfl, ⟨hk, hz.out, Or.inr (by simpa using hx)⟩, rfl⟩

theorem info_word : (Tryz.prog.info? 71).map (fun i => (i.zero, i.size, i.bytes)) = some (some (.int .u64 0), 1, 8) := by kernel_rfl
/-- The world behind a new row of n words with c places. -/
def wordsW (w : World) (c : Nat) : World := w.alloc (.cells (madeCells #[.int .u64 0] c) 71)
theorem run_words (n c : Nat) (hnc : n ≤ c) (hc : c ≤ 1000000) (w : World) :
    (Instr.makeSlice 34 (.int .i64 (n : Int)) (.int .i64 (c : Int))).run Tryz.prog w = .ok (.slice (some ⟨w.heap.size, 0, none⟩) n c) (wordsW w c) := by
  obtain ⟨i, hi, hz0, hz1, hz2⟩ := info_parts info_word
  have h := run_make (P := Tryz.prog) w 34 71 i (.int .u64 0) Tryz.underlying34 hi hz0 .i64 .i64 (n : Int) (c : Int) (by omega) (by omega) (by rw [hz2]; omega) (by omega)
  rw [h, hz1]
  simp only [Int.toNat_natCast, Nat.mul_one]
  rfl
theorem heap_new (w : World) (o : Obj) : (w.alloc o).heap[w.heap.size]? = some o := by
  show (w.heap.push o)[w.heap.size]? = some o
  simp
theorem heap_cell {w : World} {b : Nat} {cs : Array Value} {T : TypeId} {f : Nat × Nat} (h : w.heap[b]? = some (.cells cs T f)) (j : Nat) {v : Value} (hv : cs[j]? = some v) : w.cell? ⟨b, j, none⟩ = some v := by
  unfold World.cell?
  rw [h]
  simpa using hv
theorem heap_frozen {w : World} {b : Nat} {cs : Array Value} {T : TypeId} (h : w.heap[b]? = some (.cells cs T (0, 0))) (j : Nat) : w.frozen? ⟨b, j, none⟩ = false := by
  unfold World.frozen?
  rw [h]
  simp
theorem heap_lt {w : World} {b : Nat} {o : Obj} (h : w.heap[b]? = some o) : b < w.heap.size := by
  rcases Nat.lt_or_ge b w.heap.size with g | g
  · exact g
  · rw [Array.getElem?_eq_none g] at h; cases h
theorem heap_set {w : World} {b : Nat} {cs : Array Value} {T : TypeId} {f : Nat × Nat} (h : w.heap[b]? = some (.cells cs T f)) (j : Nat) (v : Value) : (w.setCell ⟨b, j, none⟩ v).heap[b]? = some (.cells (cs.setIfInBounds j v) T f) := by
  simp [World.setCell, Array.getElem?_modify, h]
theorem heap_set_far {w : World} {b b' : Nat} (h : b ≠ b') (j : Nat) (v : Value) : (w.setCell ⟨b', j, none⟩ v).heap[b]? = w.heap[b]? := Below.heap_setCell _ _ _ _ h
theorem words_cell (w : World) (c j : Nat) (h : j < c) : (wordsW w c).cell? ⟨w.heap.size, j, none⟩ = some (.int .u64 0) := by
  unfold wordsW
  unfold World.cell?
  rw [heap_new]
  simp [madeCells, h, Nat.mod_one]
theorem words_frozen (w : World) (c j : Nat) : (wordsW w c).frozen? ⟨w.heap.size, j, none⟩ = false := by
  unfold wordsW
  unfold World.frozen?
  rw [heap_new]
  simp
theorem words_size (w : World) (c : Nat) : (wordsW w c).heap.size = w.heap.size + 1 := by
  unfold wordsW; simp
theorem words_below (w : World) (c : Nat) : Below w.heap.size w (wordsW w c) := (Below.refl _ _).alloc (Nat.le_refl _) _
theorem wptr_ne (a i b j : Nat) (hne : a ≠ b) (ca cb : Array Value) (w : World) (ha : w.heap[a]? = some (.cells ca 71)) (hb : w.heap[b]? = some (.cells cb 71)) :
    (binOp .eql 85 (.pointer (some ⟨a, i, none⟩)) (.pointer (some ⟨b, j, none⟩))).run Tryz.prog w = .ok (.bool false) w := by
  obtain ⟨k, hk, hs⟩ : ∃ k, Tryz.prog.info? 71 = some k ∧ k.size ≠ 0 := by
    have h : (Tryz.prog.info? 71).map (fun i => i.size) = some 1 := by kernel_rfl
    obtain ⟨j, h1, h2⟩ := Option.map_eq_some_iff.1 h
    exact ⟨j, h1, by omega⟩
  exact run_eql_ptr_other w (tp := 85) (te := 71) Tryz.underlying85 hk hs (fun e => hne (by cases e; rfl)) ha hb
theorem heap_drewN (w : World) (n : Nat) : (w.drewN n).heap = w.heap := by
  induction n with
  | zero => rfl
  | succ n ih => exact ih
end Go.Proofs.YtmkdcnemocdefaaGreatFmt

namespace Go.Proofs.YtmkdcnemocdefaaGreatFmt
open Go.RowKit

/-- Block g holds C words: the values of f. -/
def Blk (w : World) (g C : Nat) (f : Nat → Nat) : Prop :=
  ∃ cs : Array Value, w.heap[g]? = some (.cells cs 71 (0, 0)) ∧ cs.size = C ∧ ∀ i, i < C → cs[i]? = some (.int .u64 (f i : Int))
/-- Nothing but block g has turned of what was there. -/
def Kept (w w' : World) (g : Nat) : Prop := ∀ b, b < w.heap.size → b ≠ g → w'.heap[b]? = w.heap[b]?
/-- Nothing but block g has turned, and nothing has been laid. -/
def Only (w w' : World) (g : Nat) : Prop := w'.heap.size = w.heap.size ∧ (∀ b, b ≠ g → w'.heap[b]? = w.heap[b]?) ∧ Below g w w'

theorem Blk.cell {w : World} {g C : Nat} {f : Nat → Nat} (h : Blk w g C f) (i : Nat) (hi : i < C) : w.cell? ⟨g, i, none⟩ = some (.int .u64 (f i : Int)) := by
  obtain ⟨cs, h1, _, h2⟩ := h
  exact heap_cell h1 i (h2 i hi)
theorem Blk.frozen {w : World} {g C : Nat} {f : Nat → Nat} (h : Blk w g C f) (i : Nat) : w.frozen? ⟨g, i, none⟩ = false := by
  obtain ⟨cs, h1, _, _⟩ := h
  exact heap_frozen h1 i
theorem Blk.lt {w : World} {g C : Nat} {f : Nat → Nat} (h : Blk w g C f) : g < w.heap.size := by
  obtain ⟨cs, h1, _, _⟩ := h
  exact heap_lt h1
theorem Blk.of_eq {w w' : World} {g C : Nat} {f : Nat → Nat} (h : Blk w g C f) (e : w'.heap[g]? = w.heap[g]?) : Blk w' g C f := by
  obtain ⟨cs, h1, h2⟩ := h
  exact ⟨cs, e.trans h1, h2⟩
theorem Blk.congr {w : World} {g C : Nat} {f f' : Nat → Nat} (h : Blk w g C f) (e : ∀ i, i < C → f' i = f i) : Blk w g C f' := by
  obtain ⟨cs, h1, h2, h3⟩ := h
  exact ⟨cs, h1, h2, fun i hi => by rw [h3 i hi, e i hi]⟩
theorem Blk.set {w : World} {g C : Nat} {f : Nat → Nat} (h : Blk w g C f) (i v : Nat) : Blk (w.setCell ⟨g, i, none⟩ (.int .u64 (v : Int))) g C (upd f i v) := by
  obtain ⟨cs, h1, h2, h3⟩ := h
  refine ⟨_, heap_set h1 i _, by simpa using h2, fun j hj => ?_⟩
  unfold upd
  by_cases e : j = i
  · subst e
    simp [h2, hj]
  · rw [if_neg e, Array.getElem?_setIfInBounds_ne (Ne.symm e)]
    exact h3 j hj
/-- A fresh block. -/
theorem Blk.fresh (w : World) (c : Nat) : Blk (wordsW w c) w.heap.size c (fun _ => 0) := by
  unfold wordsW
  refine ⟨_, heap_new w _, by simp [madeCells], fun i hi => ?_⟩
  simp [madeCells, hi, Nat.mod_one]
theorem Only.refl (w : World) (g : Nat) : Only w w g := ⟨rfl, fun _ _ => rfl, Below.refl _ _⟩
theorem Only.set {w w' : World} {g : Nat} (h : Only w w' g) (i : Nat) (v : Value) : Only w (w'.setCell ⟨g, i, none⟩ v) g :=
  ⟨by rw [World.size_setCell]; exact h.1, fun b hb => by rw [heap_set_far hb]; exact h.2.1 b hb, h.2.2.setCell (Nat.le_refl _) _⟩
theorem Only.drewN {w w' : World} {g : Nat} (h : Only w w' g) (n : Nat) : Only w (w'.drewN n) g :=
  ⟨by rw [heap_drewN]; exact h.1, fun b hb => by rw [heap_drewN]; exact h.2.1 b hb, below_drewN h.2.2 n⟩
theorem Only.trans {w w' w'' : World} {g : Nat} (h : Only w w' g) (k : Only w' w'' g) : Only w w'' g :=
  ⟨k.1.trans h.1, fun b hb => (k.2.1 b hb).trans (h.2.1 b hb), h.2.2.trans k.2.2⟩
theorem Only.kept {w w' : World} {g : Nat} (h : Only w w' g) : Kept w w' g := fun b _ hb => h.2.1 b hb
theorem cell_of_heap {w w' : World} {b : Nat} (h : w'.heap[b]? = w.heap[b]?) (i : Nat) : w'.cell? ⟨b, i, none⟩ = w.cell? ⟨b, i, none⟩ := by
  unfold World.cell?
  rw [h]
theorem Only.cell {w w' : World} {g b : Nat} (h : Only w w' g) (hb : b ≠ g) (i : Nat) : w'.cell? ⟨b, i, none⟩ = w.cell? ⟨b, i, none⟩ := cell_of_heap (h.2.1 b hb) i
theorem Only.wr {w w' : World} {g b o n : Nat} {x : Nat → Nat} (h : Only w w' g) (hb : b ≠ g) (hx : WR w b o n x) : WR w' b o n x := fun j hj => by
  rw [h.cell hb]; exact hx j hj
theorem Blk.drewN {w : World} {g C : Nat} {f : Nat → Nat} (h : Blk w g C f) (n : Nat) : Blk (w.drewN n) g C f := h.of_eq (by rw [heap_drewN])
theorem Blk.wr {w : World} {g C : Nat} {f : Nat → Nat} (h : Blk w g C f) (o n : Nat) (ho : o + n ≤ C) : WR w g o n (fun j => f (o + j)) := fun j hj => h.cell (o + j) (by omega)
/-- A block with one of its words written. -/
theorem Blk.put {w : World} {g C o n : Nat} {f z : Nat → Nat} (h : Blk w g C (put f o n z)) (v : Nat) (hv : v = z n) : Blk (w.setCell ⟨g, o + n, none⟩ (.int .u64 (v : Int))) g C (put f o (n + 1) z) := by
  subst hv
  rw [← put_step]
  exact h.set (o + n) (z n)
/-- While a row is written from below, the words not yet reached read as before. -/
theorem row_keep {w wr : World} {gx ox gz oz C n i : Nat} {x f z : Nat → Nat} (hx : WR w gx ox n x) (hz : Blk w gz C f) (hb : Blk wr gz C (Proofs.YtmkdcnemocdefaaGreatFmt.put f oz i z)) (ho : Only w wr gz)
    (hal : gx ≠ gz ∨ ox = oz) (hc : oz + n ≤ C) (j : Nat) (h1 : i ≤ j) (h2 : j < n) : wr.cell? ⟨gx, ox + j, none⟩ = some (.int .u64 (x j : Int)) := by
  by_cases e : gx = gz
  · subst e
    have e2 : ox = oz := by
      rcases hal with h | h
      · exact absurd rfl h
      · exact h
    subst e2
    have a := hz.cell (ox + j) (by omega)
    rw [hx j h2] at a
    have b := hb.cell (ox + j) (by omega)
    rw [put_out f ox i z (ox + j) (by omega), ← a] at b
    exact b
  · rw [ho.cell e]; exact hx j h2
end Go.Proofs.YtmkdcnemocdefaaGreatFmt

namespace Go.Proofs.YtmkdcnemocdefaaGreatFmt
open Ieee

def sgnW (b : Nat) : Bool := b / 9223372036854775808 % 2 == 1
def fieldW (b : Nat) : Nat := b / 4503599627370496 % 2048
def fracW (b : Nat) : Nat := b % 4503599627370496
def mantW (b : Nat) : Nat := if fieldW b = 0 then fracW b else fracW b + 4503599627370496
def placeW (b : Nat) : Nat := fieldW b - 1
/-- The size, in units. -/
def unitsW (b : Nat) : Nat := mantW b * 2 ^ placeW b
/-- The number, in units. -/
def numW (b : Nat) : Int := if sgnW b then -(unitsW b : Int) else (unitsW b : Int)

theorem mantW_lt (b : Nat) : mantW b < 2 ^ 53 := by
  unfold mantW fracW
  split <;> omega
theorem unitsW_lt (b K : Nat) (h : fieldW b < 2047) (hK : 2098 ≤ K) : unitsW b < 2 ^ K := by
  have m := mantW_lt b
  have p : placeW b ≤ 2045 := by unfold placeW; omega
  have a : unitsW b < 2 ^ 53 * 2 ^ placeW b := Nat.mul_lt_mul_of_pos_right m (Nat.two_pow_pos _)
  refine Nat.lt_of_lt_of_le a ?_
  rw [← Nat.pow_add]
  exact Nat.pow_le_pow_right (by decide) (by omega)
/-- A word is its parts. -/
theorem word_parts (b : Nat) (h : b < 18446744073709551616) : b = (if sgnW b then 9223372036854775808 else 0) + fieldW b * 4503599627370496 + fracW b := by
  unfold sgnW fieldW fracW
  by_cases c : b / 9223372036854775808 % 2 = 1
  · simp only [c, beq_self_eq_true, if_true]; omega
  · have c' : (b / 9223372036854775808 % 2 == 1) = false := by simpa using c
    simp only [c']
    simp
    omega
theorem read_parts (b : Nat) : double.read b =
    if fieldW b = 0 then .number (sgnW b) (fracW b) (-1074) else if fieldW b < 2047 then .number (sgnW b) (fracW b + 4503599627370496) (-1074 + (fieldW b - 1 : Nat)) else if fracW b = 0 then .infinity (sgnW b) else .nan (sgnW b) (fracW b) := by
  have hs : double.signWeight = 9223372036854775808 := rfl
  have hb : double.binade = 4503599627370496 := rfl
  have hi : double.infRung = 9218868437227405312 := rfl
  have hl : double.leastPlace = -1074 := rfl
  unfold Format.read sgnW fieldW fracW
  simp only [hs, hb, hi, hl]
  have e1 : b % 9223372036854775808 % 4503599627370496 = b % 4503599627370496 := by omega
  have e2 : b % 9223372036854775808 / 4503599627370496 = b / 4503599627370496 % 2048 := by omega
  rw [e1, e2]
  by_cases c0 : b / 4503599627370496 % 2048 = 0
  · rw [if_pos (by omega), if_pos c0]
    have e3 : b % 9223372036854775808 = b % 4503599627370496 := by omega
    rw [e3]
  · rw [if_neg (by omega), if_neg c0]
    by_cases c1 : b / 4503599627370496 % 2048 < 2047
    · rw [if_pos (by omega), if_pos c1, Nat.add_comm]
    · rw [if_neg (by omega), if_neg c1]
      by_cases c2 : b % 4503599627370496 = 0
      · rw [if_pos (by omega), if_pos c2]
      · rw [if_neg (by omega), if_neg c2]
        have e3 : b % 9223372036854775808 - 9218868437227405312 = b % 4503599627370496 := by omega
        rw [e3]
/-- A small number times 2^52. -/
def liftW (b : Nat) : Nat := (if sgnW b then 9223372036854775808 else 0) + (Nat.log2 (fracW b) + 1) * 4503599627370496 + (fracW b * 2 ^ (52 - Nat.log2 (fracW b)) - 4503599627370496)
theorem log2_frac (b : Nat) (h : fracW b ≠ 0) : Nat.log2 (fracW b) ≤ 51 ∧ 4503599627370496 ≤ fracW b * 2 ^ (52 - Nat.log2 (fracW b)) ∧ fracW b * 2 ^ (52 - Nat.log2 (fracW b)) < 2 * 4503599627370496 := by
  have l : fracW b < 2 ^ 52 := Nat.mod_lt _ (by decide)
  have h1 := (Nat.log2_lt h).2 l
  have h2 := Nat.log2_self_le h
  have h3 : fracW b < 2 ^ (Nat.log2 (fracW b) + 1) := Nat.lt_log2_self
  generalize fracW b = m at *
  generalize Nat.log2 m = L at *
  refine ⟨by omega, ?_, ?_⟩
  · refine Nat.le_trans ?_ (Nat.mul_le_mul_right _ h2)
    rw [← Nat.pow_add, show L + (52 - L) = 52 by omega]
    decide
  · have a := Nat.mul_lt_mul_of_pos_right h3 (Nat.two_pow_pos (52 - L))
    rw [← Nat.pow_add, show L + 1 + (52 - L) = 53 by omega] at a
    exact a
theorem mul_lift (b : Nat) (h0 : fieldW b = 0) (h1 : fracW b ≠ 0) : double.mul b 4841369599423283200 = some (liftW b) := by
  have hr := read_parts b
  rw [if_pos h0] at hr
  have hr2 : double.read 4841369599423283200 = .number false 4503599627370496 0 := by decide +kernel
  have hl : double.leastPlace = -1074 := rfl
  have hf : (double.fractionBits : Int) = 52 := rfl
  have hb : double.binade = 4503599627370496 := rfl
  have hi : double.infRung = 9218868437227405312 := rfl
  have ⟨l1, l2, l3⟩ := log2_frac b h1
  have lg : (fracW b * 4503599627370496).log2 = Nat.log2 (fracW b) + 52 := by
    have e := log2_of (S := fracW b * 4503599627370496) (E := Nat.log2 (fracW b) + 53) (by
      have h2 := Nat.log2_self_le h1
      rw [Nat.pow_add]
      have m := Nat.mul_le_mul_right (2 ^ 53) h2
      omega) (by
      have h3 : fracW b < 2 ^ (Nat.log2 (fracW b) + 1) := Nat.lt_log2_self
      rw [show Nat.log2 (fracW b) + 53 = Nat.log2 (fracW b) + 1 + 52 by omega, Nat.pow_add]
      have m := Nat.mul_lt_mul_of_pos_right h3 (Nat.two_pow_pos 52)
      omega)
    omega
  have hm : fracW b * 4503599627370496 ≠ 0 := by omega
  have hcut : Toward.even.cut (sgnW b) (fracW b * 4503599627370496) (Nat.log2 (fracW b)) = fracW b * 2 ^ (52 - Nat.log2 (fracW b)) := by
    have eg : fracW b * 4503599627370496 = fracW b * 2 ^ (52 - Nat.log2 (fracW b)) * 2 ^ Nat.log2 (fracW b) := by
      rw [Nat.mul_assoc, ← Nat.pow_add, show 52 - Nat.log2 (fracW b) + Nat.log2 (fracW b) = 52 by omega]
    unfold Toward.cut
    rw [Nat.min_eq_left (by omega)]
    simp only [Nat.one_shiftLeft]
    rw [eg, Nat.mul_div_cancel _ (Nat.two_pow_pos _), Nat.mul_mod_left]
    have c : ((2 ^ Nat.log2 (fracW b) == 2 * 0) : Bool) = false := by
      have : 0 < (2 : Nat) ^ Nat.log2 (fracW b) := Nat.two_pow_pos _
      simp
    simp [c]
  simp only [Format.mul, hr, hr2, Datum.product, Format.write, Option.map, Bool.xor_false, Int.add_zero]
  unfold Format.nearest
  rw [if_neg hm]
  simp only [hl, hf, hb, hi, lg]
  have hmax : max (-1074 + ((Nat.log2 (fracW b) + 52 : Nat) : Int) - 52) (-1074) = -1074 + (Nat.log2 (fracW b) : Int) := by omega
  rw [hmax]
  have e1 : (-1074 - (-1074 + (Nat.log2 (fracW b) : Int))).toNat = 0 := by omega
  have e2 : (-1074 + (Nat.log2 (fracW b) : Int) - -1074).toNat = Nat.log2 (fracW b) := by omega
  rw [e1, e2, Nat.shiftLeft_zero, hcut]
  unfold liftW Format.word
  have hs : double.signWeight = 9223372036854775808 := rfl
  rw [hs]
  generalize fracW b * 2 ^ (52 - Nat.log2 (fracW b)) = q at *
  generalize Nat.log2 (fracW b) = L at *
  refine congrArg some ?_
  have hx : min (L * 4503599627370496 + q) 9218868437227405312 = (L + 1) * 4503599627370496 + (q - 4503599627370496) := by
    clear hm hcut lg hmax e1 e2 hr hr2 hl hf hb hi hs
    have k : L * 4503599627370496 + q ≤ 9218868437227405312 := by omega
    rw [Nat.min_eq_left k]
    omega
  rw [hx]
  cases sgnW b
  · rw [if_neg Bool.false_ne_true, if_neg Bool.false_ne_true, Nat.zero_add]
  · rw [if_pos rfl, if_pos rfl, Nat.add_assoc]
end Go.Proofs.YtmkdcnemocdefaaGreatFmt

namespace Go.Proofs.YtmkdcnemocdefaaGreatFmt

/-- The mantissa, its top bit set, and how many bits the number has. -/
def normW (b : Nat) : Nat := if fieldW b = 0 then fracW b * 2 ^ (63 - Nat.log2 (fracW b)) else 9223372036854775808 + fracW b * 2048
def exW (b : Nat) : Nat := if fieldW b = 0 then Nat.log2 (fracW b) + 1 else fieldW b + 52
theorem unitsW_zero (b : Nat) : unitsW b = 0 ↔ fieldW b = 0 ∧ fracW b = 0 := by
  unfold unitsW mantW
  constructor
  · intro h
    rcases Nat.mul_eq_zero.1 h with e | e
    · split at e
      · exact ⟨by assumption, e⟩
      · omega
    · have : 0 < 2 ^ placeW b := Nat.two_pow_pos _
      omega
  · intro ⟨h1, h2⟩
    rw [if_pos h1, h2, Nat.zero_mul]
theorem normW_val (b : Nat) (h : unitsW b ≠ 0) : normW b * 2 ^ exW b = unitsW b * 2 ^ 64 := by
  unfold normW exW unitsW mantW placeW
  by_cases c : fieldW b = 0
  · have hf : fracW b ≠ 0 := fun e => h ((unitsW_zero b).2 ⟨c, e⟩)
    have l := (log2_frac b hf).1
    rw [if_pos c, if_pos c, if_pos c, c, Nat.mul_assoc, ← Nat.pow_add, show 63 - Nat.log2 (fracW b) + (Nat.log2 (fracW b) + 1) = 64 by omega]
    rw [show 0 - 1 = 0 by rfl, Nat.pow_zero, Nat.mul_one]
  · rw [if_neg c, if_neg c, if_neg c]
    obtain ⟨f, hf⟩ : ∃ f, fieldW b = f + 1 := ⟨fieldW b - 1, by omega⟩
    rw [hf, show f + 1 - 1 = f by omega, show f + 1 + 52 = 53 + f by omega, Nat.pow_add]
    have e : 9223372036854775808 + fracW b * 2048 = (fracW b + 4503599627370496) * 2048 := by omega
    rw [e, Nat.mul_assoc, Nat.mul_assoc, ← Nat.mul_assoc 2048, show (2048 : Nat) * 2 ^ 53 = 2 ^ 64 by rfl, Nat.mul_comm (2 ^ 64)]
theorem normW_lo (b : Nat) (h : unitsW b ≠ 0) : 9223372036854775808 ≤ normW b ∧ normW b < 18446744073709551616 := by
  unfold normW
  by_cases c : fieldW b = 0
  · have hf : fracW b ≠ 0 := fun e => h ((unitsW_zero b).2 ⟨c, e⟩)
    have ⟨l, l2, l3⟩ := log2_frac b hf
    rw [if_pos c, show 63 - Nat.log2 (fracW b) = 52 - Nat.log2 (fracW b) + 11 by omega, Nat.pow_add, ← Nat.mul_assoc]
    omega
  · rw [if_neg c]
    have : fracW b < 4503599627370496 := Nat.mod_lt _ (by decide)
    omega
theorem man_word (K b : Nat) (hK : 64 ≤ K) (h : unitsW b ≠ 0) : Man K (normW b) 1 (exW b + (K - 64)) (unitsW b) := by
  have l := normW_lo b h
  refine ⟨?_, ?_, ?_⟩
  · rw [Nat.pow_add, ← Nat.mul_assoc, normW_val b h, Nat.mul_assoc, ← Nat.pow_add, show 64 + (K - 64) = K by omega]
  · show 18446744073709551616 ≤ _; omega
  · show _ < 18446744073709551616; omega
theorem exW_lt (b : Nat) (h : fieldW b < 2047) (h0 : unitsW b ≠ 0) : exW b ≤ 2098 ∧ 1 ≤ exW b := by
  unfold exW
  by_cases c : fieldW b = 0
  · have hf : fracW b ≠ 0 := fun e => h0 ((unitsW_zero b).2 ⟨c, e⟩)
    have l := (log2_frac b hf).1
    rw [if_pos c]; omega
  · rw [if_neg c]; omega
end Go.Proofs.YtmkdcnemocdefaaGreatFmt
