/- Rows of words: norm, and the product of a word and a word. -/
import Derived.Test.YtbafddlkeocpeaaGreatDoorBgW
namespace Go.Proofs.YtbafddlkeocpeaaGreatDoor
open Go.RowKit

/-- A row of words. -/
def WR (w : World) (b o n : Nat) (x : Nat → Nat) : Prop := ∀ j, j < n → w.cell? ⟨b, o + j, none⟩ = some (.int .u64 (x j : Int))
/-- How many words are left when the noughts at the top are struck. -/
def NormOf (x : Nat → Nat) (n k : Nat) : Prop := k ≤ n ∧ (∀ j, k ≤ j → j < n → x j = 0) ∧ (k = 0 ∨ x (k - 1) ≠ 0)

theorem norm_any' (b o n cap : Nat) (hn : n ≤ cap) (hcap : cap ≤ 9223372036854775807) (x : Nat → Nat) (w : World) (h : WR w b o n x) :
    Calls Tryz.prog 63 #[.slice (some ⟨b, o, none⟩) n cap] w fun e w' => ∃ k, e = .returned (.slice (some ⟨b, o, none⟩) k cap) ∧ NormOf x n k ∧ w' = w := by
  have H := Lib.hid h
  clear h
  go_enter Tryz.func63, Tryz.ntmps63
  go_wp2
  go_loopw [3] (fun i wr => ∃ k : Nat, k ≤ n ∧ i = .int .i64 k ∧ Hid (∀ j, k ≤ j → j < n → x j = 0) ∧ wr = w) (fun i _ => (intOf i).toNat)
  case atStart => exact ⟨n, Nat.le_refl _, rfl, Lib.hid (fun j h1 h2 => by omega), rfl⟩
  case round =>
    obtain ⟨k, hk, rfl, hz, rfl⟩ := hrel
    by_cases h0 : k = 0
    · subst h0
      go_wp2
      go_ret
      exact ⟨0, rfl, ⟨Nat.zero_le _, hz.out, Or.inl rfl⟩, rfl⟩
    · obtain ⟨m, rfl⟩ : ∃ m, k = m + 1 := ⟨k - 1, by omega⟩
      have hc := H.out m (by omega)
      have e1 : ((m + 1 : Nat) : Int) - 1 = (m : Int) := by omega
      by_cases hx : x m = 0
      · rw [hx] at hc
        go_wp2
        refine ⟨⟨m, by omega, rfl, Lib.hid (fun j h1 h2 => ?_), trivial⟩, by simp [intOf]⟩
        rcases Nat.lt_or_ge m j with h | h
        · exact hz.out j h h2
        · rw [show j = m by omega]; exact hx
      · have hx' : ¬ ((x m : Int) = 0) := by omega
        go_wp2
        go_ret
        exact ⟨m + 1, rfl, ⟨hk, hz.out, Or.inr (by simpa using hx)⟩, rfl⟩

theorem info_word : (Tryz.prog.info? 71).map (fun i => (i.zero, i.size, i.bytes)) = some (some (.int .u64 0), 1, 8) := by kernel_rfl
/-- The world behind a new row of n words with c places. -/
def wordsW (w : World) (c : Nat) : World := w.alloc (.cells (madeCells #[.int .u64 0] c) 71)
theorem run_words (n c : Nat) (hnc : n ≤ c) (hc : c ≤ 1000000) (w : World) :
    (Instr.makeSlice 50 (.int .i64 (n : Int)) (.int .i64 (c : Int))).run Tryz.prog w = .ok (.slice (some ⟨w.heap.size, 0, none⟩) n c) (wordsW w c) := by
  obtain ⟨i, hi, hz0, hz1, hz2⟩ := info_parts info_word
  have h := run_make (P := Tryz.prog) w 50 71 i (.int .u64 0) Tryz.underlying50 hi hz0 .i64 .i64 (n : Int) (c : Int) (by omega) (by omega) (by rw [hz2]; omega) (by omega)
  rw [h, hz1]
  simp only [Int.toNat_natCast, Nat.mul_one]
  rfl
theorem heap_new (w : World) (o : Obj) : (w.alloc o).heap[w.heap.size]? = some o := by
  show (w.heap.push o)[w.heap.size]? = some o
  simp
theorem heap_cell {w : World} {b : Nat} {cs : Array Value} {T : TypeId} {f : Nat × Nat} (h : w.heap[b]? = some (.cells cs T f)) (j : Nat) {v : Value} (hv : cs[j]? = some v) : w.cell? ⟨b, j, none⟩ = some v := by
  unfold World.cell?
  rw [h]
  simpa using hv
theorem heap_frozen {w : World} {b : Nat} {cs : Array Value} {T : TypeId} (h : w.heap[b]? = some (.cells cs T (0, 0))) (j : Nat) : w.frozen? ⟨b, j, none⟩ = false := by
  unfold World.frozen?
  rw [h]
  simp
theorem heap_lt {w : World} {b : Nat} {o : Obj} (h : w.heap[b]? = some o) : b < w.heap.size := by
  rcases Nat.lt_or_ge b w.heap.size with g | g
  · exact g
  · rw [Array.getElem?_eq_none g] at h; cases h
theorem heap_set {w : World} {b : Nat} {cs : Array Value} {T : TypeId} {f : Nat × Nat} (h : w.heap[b]? = some (.cells cs T f)) (j : Nat) (v : Value) : (w.setCell ⟨b, j, none⟩ v).heap[b]? = some (.cells (cs.setIfInBounds j v) T f) := by
  simp [World.setCell, Array.getElem?_modify, h]
theorem heap_set_far {w : World} {b b' : Nat} (h : b ≠ b') (j : Nat) (v : Value) : (w.setCell ⟨b', j, none⟩ v).heap[b]? = w.heap[b]? := Below.heap_setCell _ _ _ _ h
theorem words_cell (w : World) (c j : Nat) (h : j < c) : (wordsW w c).cell? ⟨w.heap.size, j, none⟩ = some (.int .u64 0) := by
  unfold wordsW
  unfold World.cell?
  rw [heap_new]
  simp [madeCells, h, Nat.mod_one]
theorem words_frozen (w : World) (c j : Nat) : (wordsW w c).frozen? ⟨w.heap.size, j, none⟩ = false := by
  unfold wordsW
  unfold World.frozen?
  rw [heap_new]
  simp
theorem words_size (w : World) (c : Nat) : (wordsW w c).heap.size = w.heap.size + 1 := by
  unfold wordsW; simp
theorem words_below (w : World) (c : Nat) : Below w.heap.size w (wordsW w c) := (Below.refl _ _).alloc (Nat.le_refl _) _

theorem words_six (w : World) : (wordsW w 6).heap[w.heap.size]? = some (.cells #[.int .u64 0, .int .u64 0, .int .u64 0, .int .u64 0, .int .u64 0, .int .u64 0] 71) := by
  unfold wordsW
  rw [heap_new]
  have e : madeCells #[.int .u64 0] 6 = #[.int .u64 0, .int .u64 0, .int .u64 0, .int .u64 0, .int .u64 0, .int .u64 0] := by kernel_rfl
  rw [e]
theorem make_two (w : World) :
    Calls Tryz.prog 61 #[.slice none 0 0, .int .i64 2] w fun e w' => e = .returned (.slice (some ⟨w.heap.size, 0, none⟩) 2 6) ∧ w' = wordsW w 6 := by
  have h : ∀ W, (Instr.makeSlice 50 (.int .i64 2) (.int .i64 6)).run Tryz.prog W = .ok (.slice (some ⟨W.heap.size, 0, none⟩) 2 6) (wordsW W 6) := fun W => run_words 2 6 (by omega) (by omega) W
  go_enter Tryz.func61, Tryz.ntmps61
  go_wp2
  go_ret
  exact ⟨rfl, rfl⟩

/-- A row of one word times a word. -/
theorem mulRow_one (bz bx x y z0 : Nat) (hx : x < 18446744073709551616) (hy : y < 18446744073709551616) (cz cx : Nat) (w : World)
    (hX : w.cell? ⟨bx, 0, none⟩ = some (.int .u64 (x : Int))) (hZ : w.cell? ⟨bz, 0, none⟩ = some (.int .u64 (z0 : Int))) (hF : w.frozen? ⟨bz, 0, none⟩ = false) :
    Calls Tryz.prog 37 #[.slice (some ⟨bz, 0, none⟩) 1 cz, .slice (some ⟨bx, 0, none⟩) 1 cx, .int .u64 (y : Int), .int .u64 0] w fun e w' =>
      e = .returned (.int .u64 ((x * y / 18446744073709551616 : Nat) : Int)) ∧ w' = w.setCell ⟨bz, 0, none⟩ (.int .u64 ((x * y % 18446744073709551616 : Nat) : Int)) := by
  have HM := Lib.hid (fun W => mulAdd_any x y 0 hx hy (by omega) W)
  simp only [Nat.add_zero] at HM
  have bh : x * y / 18446744073709551616 < 18446744073709551616 := by
    have hp : x * y ≤ 340282366920938463426481119284349108225 := Nat.mul_le_mul (Nat.le_of_lt_succ hx) (Nat.le_of_lt_succ hy)
    omega
  have bl : x * y % 18446744073709551616 < 18446744073709551616 := Nat.mod_lt _ (by decide)
  generalize x * y / 18446744073709551616 = hi at *
  generalize x * y % 18446744073709551616 = lo at *
  go_enter Tryz.func37, Tryz.ntmps37
  go_wp2
  refine wp_loop_rounds 2 ?_
  rw [rounds_succ]
  go_wp2_with fail
  refine (HM.out _).mono ?_; rintro e w1 ⟨rfl, rfl⟩
  go_wp2
  rw [rounds_succ]
  go_wp2
  go_ret
  exact ⟨rfl, rfl⟩

/-- A word times a word, as a row. -/
theorem mulAddWW_one (bx x y : Nat) (hx : x < 18446744073709551616) (hy : y < 18446744073709551616) (hx0 : x ≠ 0) (hy0 : y ≠ 0) (cx : Nat) (w : World)
    (hX : w.cell? ⟨bx, 0, none⟩ = some (.int .u64 (x : Int))) :
    Calls Tryz.prog 69 #[.slice none 0 0, .slice (some ⟨bx, 0, none⟩) 1 cx, .int .u64 (y : Int), .int .u64 0] w fun e w' =>
      ∃ k, e = .returned (.slice (some ⟨w.heap.size, 0, none⟩) k 6) ∧ (k = 1 ∧ x * y < 18446744073709551616 ∨ k = 2 ∧ 18446744073709551616 ≤ x * y) ∧
        w'.heap[w.heap.size]? = some (.cells #[.int .u64 ((x * y % 18446744073709551616 : Nat) : Int), .int .u64 ((x * y / 18446744073709551616 : Nat) : Int), .int .u64 0, .int .u64 0, .int .u64 0, .int .u64 0] 71) ∧
        w'.heap.size = w.heap.size + 1 ∧ Below w.heap.size w w' := by
  have hb : bx < w.heap.size := cell_lt hX
  have HK := Lib.hid (fun W => make_two W)
  have hX' := hX
  rw [← (words_below w 6).cell (p := ⟨bx, 0, none⟩) hb] at hX'
  have HR := Lib.hid (mulRow_one w.heap.size bx x y 0 hx hy 6 cx (wordsW w 6) hX' (words_cell w 6 0 (by omega)) (words_frozen w 6 0))
  have hp : x * y ≠ 0 := Nat.mul_ne_zero hx0 hy0
  have hp2 : x * y ≤ 340282366920938463426481119284349108225 := Nat.mul_le_mul (Nat.le_of_lt_succ hx) (Nat.le_of_lt_succ hy)
  have hq : x * y = x * y / 18446744073709551616 * 18446744073709551616 + x * y % 18446744073709551616 := by omega
  have bh : x * y / 18446744073709551616 < 18446744073709551616 := by omega
  have bl : x * y % 18446744073709551616 < 18446744073709551616 := Nat.mod_lt _ (by decide)
  generalize x * y / 18446744073709551616 = hi at *
  generalize x * y % 18446744073709551616 = lo at *
  generalize x * y = p at *
  have hx1 : ¬ ((y : Int) = 0) := by omega
  go_enter Tryz.func69, Tryz.ntmps69
  go_wp2_with fail
  refine (HK.out _).mono ?_; rintro e w1 ⟨rfl, rfl⟩
  go_wp2_with fail
  refine HR.out.mono ?_; rintro e w2 ⟨rfl, rfl⟩
  have hB2 : Below w.heap.size w ((wordsW w 6).setCell ⟨w.heap.size, 0, none⟩ (.int .u64 (lo : Int))) := (words_below w 6).setCell (Nat.le_refl _) _
  have s0 : ((wordsW w 6).setCell ⟨w.heap.size, 0, none⟩ (.int .u64 (lo : Int))).cell? ⟨w.heap.size, 0, none⟩ = some (.int .u64 (lo : Int)) := World.cell?_setCell_same _ _ _ (words_cell w 6 0 (by omega))
  have s1 : ((wordsW w 6).setCell ⟨w.heap.size, 0, none⟩ (.int .u64 (lo : Int))).cell? ⟨w.heap.size, 1, none⟩ = some (.int .u64 0) := by
    rw [World.cell?_setCell_other _ _ _ _ (by simp)]; exact words_cell w 6 1 (by omega)
  have f1 : ((wordsW w 6).setCell ⟨w.heap.size, 0, none⟩ (.int .u64 (lo : Int))).frozen? ⟨w.heap.size, 1, none⟩ = false := by
    rw [World.frozen?_setCell]; exact words_frozen w 6 1
  have o2 : ((wordsW w 6).setCell ⟨w.heap.size, 0, none⟩ (.int .u64 (lo : Int))).heap[w.heap.size]? = some (.cells #[.int .u64 (lo : Int), .int .u64 0, .int .u64 0, .int .u64 0, .int .u64 0, .int .u64 0] 71) := heap_set (words_six w) 0 _
  have z2 : ((wordsW w 6).setCell ⟨w.heap.size, 0, none⟩ (.int .u64 (lo : Int))).heap.size = w.heap.size + 1 := by rw [World.size_setCell]; exact words_size w 6
  generalize (wordsW w 6).setCell ⟨w.heap.size, 0, none⟩ (.int .u64 (lo : Int)) = W2 at *
  go_wp2_with fail
  have hW : WR (W2.setCell ⟨w.heap.size, 1, none⟩ (.int .u64 (hi : Int))) w.heap.size 0 2 (fun j => if j = 0 then lo else hi) := by
    intro j hj
    have : j = 0 ∨ j = 1 := by omega
    rcases this with rfl | rfl
    · show World.cell? _ ⟨w.heap.size, 0, none⟩ = _
      rw [World.cell?_setCell_other _ _ _ _ (by simp)]; exact s0
    · exact World.cell?_setCell_same _ _ _ s1
  have o3 := heap_set o2 1 (.int .u64 (hi : Int))
  refine (norm_any' w.heap.size 0 2 6 (by omega) (by omega) _ _ hW).mono ?_; rintro e w3 ⟨k, rfl, ⟨hk, hz, hn⟩, rfl⟩
  go_wp2
  go_ret
  refine ⟨k, rfl, ?_, o3, by rw [World.size_setCell]; exact z2, hB2.setCell (Nat.le_refl _) _⟩
  have h0 : k = 0 ∨ k = 1 ∨ k = 2 := by omega
  rcases h0 with rfl | rfl | rfl
  · have a0 := hz 0 (by omega) (by omega)
    have a1 := hz 1 (by omega) (by omega)
    simp at a0 a1
    omega
  · have a1 := hz 1 (by omega) (by omega)
    simp at a1
    exact Or.inl ⟨rfl, by omega⟩
  · rcases hn with hn | hn
    · omega
    · simp at hn
      exact Or.inr ⟨rfl, by omega⟩
end Go.Proofs.YtbafddlkeocpeaaGreatDoor
