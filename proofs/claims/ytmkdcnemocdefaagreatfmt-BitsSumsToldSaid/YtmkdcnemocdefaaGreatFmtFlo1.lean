/- big.Float in memory; makeAcc; setUint64; round where nothing is lost. -/
import Derived.Test.YtmkdcnemocdefaaGreatFmtNat4
namespace Go.Proofs.YtmkdcnemocdefaaGreatFmt
open Go.RowKit

/-- The seven cells of a big.Float. -/
def fltO (prec : Nat) (acc : Int) (form : Nat) (neg : Bool) (mant : Value) (exp : Int) : Array Value :=
  #[.int .u32 (prec : Int), .int .u8 0, .int .i8 acc, .int .u8 (form : Int), .bool neg, mant, .int .i32 exp]
def Flt (w : World) (b prec : Nat) (acc : Int) (form : Nat) (neg : Bool) (mant : Value) (exp : Int) : Prop :=
  w.heap[b]? = some (.cells (fltO prec acc form neg mant exp) 36 (0, 0))
theorem Flt.c0 {w : World} {b prec form : Nat} {acc exp : Int} {neg : Bool} {mant : Value} (h : Flt w b prec acc form neg mant exp) : w.cell? ⟨b, 0, none⟩ = some (.int .u32 (prec : Int)) := heap_cell h 0 rfl
theorem Flt.c1 {w : World} {b prec form : Nat} {acc exp : Int} {neg : Bool} {mant : Value} (h : Flt w b prec acc form neg mant exp) : w.cell? ⟨b, 1, none⟩ = some (.int .u8 0) := heap_cell h 1 rfl
theorem Flt.c2 {w : World} {b prec form : Nat} {acc exp : Int} {neg : Bool} {mant : Value} (h : Flt w b prec acc form neg mant exp) : w.cell? ⟨b, 2, none⟩ = some (.int .i8 acc) := heap_cell h 2 rfl
theorem Flt.c3 {w : World} {b prec form : Nat} {acc exp : Int} {neg : Bool} {mant : Value} (h : Flt w b prec acc form neg mant exp) : w.cell? ⟨b, 3, none⟩ = some (.int .u8 (form : Int)) := heap_cell h 3 rfl
theorem Flt.c4 {w : World} {b prec form : Nat} {acc exp : Int} {neg : Bool} {mant : Value} (h : Flt w b prec acc form neg mant exp) : w.cell? ⟨b, 4, none⟩ = some (.bool neg) := heap_cell h 4 rfl
theorem Flt.c5 {w : World} {b prec form : Nat} {acc exp : Int} {neg : Bool} {mant : Value} (h : Flt w b prec acc form neg mant exp) : w.cell? ⟨b, 5, none⟩ = some mant := heap_cell h 5 rfl
theorem Flt.c6 {w : World} {b prec form : Nat} {acc exp : Int} {neg : Bool} {mant : Value} (h : Flt w b prec acc form neg mant exp) : w.cell? ⟨b, 6, none⟩ = some (.int .i32 exp) := heap_cell h 6 rfl
theorem Flt.fr {w : World} {b prec form : Nat} {acc exp : Int} {neg : Bool} {mant : Value} (h : Flt w b prec acc form neg mant exp) (i : Nat) : w.frozen? ⟨b, i, none⟩ = false := heap_frozen h i
theorem Flt.lt {w : World} {b prec form : Nat} {acc exp : Int} {neg : Bool} {mant : Value} (h : Flt w b prec acc form neg mant exp) : b < w.heap.size := heap_lt h
theorem Flt.s0 {w : World} {b prec form : Nat} {acc exp : Int} {neg : Bool} {mant : Value} (h : Flt w b prec acc form neg mant exp) (v : Nat) : Flt (w.setCell ⟨b, 0, none⟩ (.int .u32 (v : Int))) b v acc form neg mant exp := heap_set h 0 _
theorem Flt.s2 {w : World} {b prec form : Nat} {acc exp : Int} {neg : Bool} {mant : Value} (h : Flt w b prec acc form neg mant exp) (v : Int) : Flt (w.setCell ⟨b, 2, none⟩ (.int .i8 v)) b prec v form neg mant exp := heap_set h 2 _
theorem Flt.s3 {w : World} {b prec form : Nat} {acc exp : Int} {neg : Bool} {mant : Value} (h : Flt w b prec acc form neg mant exp) (v : Nat) : Flt (w.setCell ⟨b, 3, none⟩ (.int .u8 (v : Int))) b prec acc v neg mant exp := heap_set h 3 _
theorem Flt.s4 {w : World} {b prec form : Nat} {acc exp : Int} {neg : Bool} {mant : Value} (h : Flt w b prec acc form neg mant exp) (v : Bool) : Flt (w.setCell ⟨b, 4, none⟩ (.bool v)) b prec acc form v mant exp := heap_set h 4 _
theorem Flt.s5 {w : World} {b prec form : Nat} {acc exp : Int} {neg : Bool} {mant : Value} (h : Flt w b prec acc form neg mant exp) (v : Value) : Flt (w.setCell ⟨b, 5, none⟩ v) b prec acc form neg v exp := heap_set h 5 _
theorem Flt.s6 {w : World} {b prec form : Nat} {acc exp : Int} {neg : Bool} {mant : Value} (h : Flt w b prec acc form neg mant exp) (v : Int) : Flt (w.setCell ⟨b, 6, none⟩ (.int .i32 v)) b prec acc form neg mant v := heap_set h 6 _
theorem Flt.of_eq {w w' : World} {b prec form : Nat} {acc exp : Int} {neg : Bool} {mant : Value} (h : Flt w b prec acc form neg mant exp) (e : w'.heap[b]? = w.heap[b]?) : Flt w' b prec acc form neg mant exp := e.trans h
theorem Flt.drewN {w : World} {b prec form : Nat} {acc exp : Int} {neg : Bool} {mant : Value} (h : Flt w b prec acc form neg mant exp) (n : Nat) : Flt (w.drewN n) b prec acc form neg mant exp := h.of_eq (by rw [heap_drewN])

/-- Of what was there, nothing but the blocks b and g has turned. -/
def Fr (w w' : World) (b g : Nat) : Prop := (∀ k, k < w.heap.size → k ≠ b → k ≠ g → w'.heap[k]? = w.heap[k]?) ∧ w.heap.size ≤ w'.heap.size ∧ (∀ B, B ≤ b → B ≤ g → B ≤ w.heap.size → Below B w w')
theorem Fr.refl (w : World) (b g : Nat) : Fr w w b g := ⟨fun _ _ _ _ => rfl, Nat.le_refl _, fun _ _ _ _ => Below.refl _ _⟩
theorem Fr.trans {w w1 w2 : World} {b g g' : Nat} (h : Fr w w1 b g) (k : Fr w1 w2 b g') (hg : g' = g ∨ w.heap.size ≤ g') : Fr w w2 b g :=
  ⟨fun i hi h1 h2 => (k.1 i (Nat.lt_of_lt_of_le hi h.2.1) h1 (by rcases hg with e | e <;> omega)).trans (h.1 i hi h1 h2), Nat.le_trans h.2.1 k.2.1,
    fun B h1 h2 h3 => (h.2.2 B h1 h2 h3).trans (k.2.2 B h1 (by rcases hg with e | e <;> omega) (Nat.le_trans h3 h.2.1))⟩
theorem Fr.setB {w w1 : World} {b g : Nat} (h : Fr w w1 b g) (i : Nat) (v : Value) : Fr w (w1.setCell ⟨b, i, none⟩ v) b g :=
  ⟨fun k hk h1 h2 => by rw [heap_set_far h1]; exact h.1 k hk h1 h2, by rw [World.size_setCell]; exact h.2.1, fun B h1 h2 h3 => (h.2.2 B h1 h2 h3).setCell h1 _⟩
theorem Fr.setG {w w1 : World} {b g : Nat} (h : Fr w w1 b g) (i : Nat) (v : Value) : Fr w (w1.setCell ⟨g, i, none⟩ v) b g :=
  ⟨fun k hk h1 h2 => by rw [heap_set_far h2]; exact h.1 k hk h1 h2, by rw [World.size_setCell]; exact h.2.1, fun B h1 h2 h3 => (h.2.2 B h1 h2 h3).setCell h2 _⟩
theorem Fr.drewN {w w1 : World} {b g : Nat} (h : Fr w w1 b g) (n : Nat) : Fr w (w1.drewN n) b g :=
  ⟨fun k hk h1 h2 => by rw [heap_drewN]; exact h.1 k hk h1 h2, by rw [heap_drewN]; exact h.2.1, fun B h1 h2 h3 => below_drewN (h.2.2 B h1 h2 h3) n⟩
theorem Fr.only {w w1 w2 : World} {b g : Nat} (h : Fr w w1 b g) (k : Only w1 w2 g) : Fr w w2 b g :=
  ⟨fun i hi h1 h2 => (k.2.1 i h2).trans (h.1 i hi h1 h2), by rw [k.1]; exact h.2.1, fun B h1 h2 h3 => (h.2.2 B h1 h2 h3).trans (k.2.2.mono h2)⟩
theorem makeAcc_any (a : Bool) (w : World) :
    Calls Tryz.prog 29 #[.bool a] w fun e w' => e = .returned (.int .i8 (if a then 1 else -1)) ∧ w' = w := by
  cases a <;>
    (go_enter Tryz.func29, Tryz.ntmps29
     go_wp2
     go_ret
     exact ⟨rfl, rfl⟩)
theorem setWord_nil (x : Nat) (hx : x ≠ 0) (w : World) :
    Calls Tryz.prog 57 #[.slice none 0 0, .int .u64 (x : Int)] w fun e w' => e = .returned (.slice (some ⟨w.heap.size, 0, none⟩) 1 1) ∧ w' = (wordsW w 1).setCell ⟨w.heap.size, 0, none⟩ (.int .u64 (x : Int)) := by
  have hr : ∀ W, (Instr.makeSlice 34 (.int .i64 1) (.int .i64 1)).run Tryz.prog W = .ok (.slice (some ⟨W.heap.size, 0, none⟩) 1 1) (wordsW W 1) := fun W => run_words 1 1 (by omega) (by omega) W
  have M : Hid (∀ W : World, Calls Tryz.prog 58 #[.slice none 0 0, .int .i64 1] W fun e w' => e = .returned (.slice (some ⟨W.heap.size, 0, none⟩) 1 1) ∧ w' = wordsW W 1) := Lib.hid (fun W => by
    go_enter Tryz.func58, Tryz.ntmps58
    go_wp2
    go_ret
    exact ⟨rfl, rfl⟩)
  have hx' : ¬ ((x : Int) = 0) := by omega
  have c := words_cell w 1 0 (by omega)
  have f := words_frozen w 1 0
  clear hr
  go_enter Tryz.func57, Tryz.ntmps57
  go_wp2_with fail
  refine (M.out _).mono ?_; rintro e w' ⟨rfl, rfl⟩
  go_wp2
  go_ret
  exact ⟨rfl, rfl⟩
theorem setUint64_nil (x : Nat) (hx : x ≠ 0) (w : World) :
    Calls Tryz.prog 39 #[.slice none 0 0, .int .u64 (x : Int)] w fun e w' => e = .returned (.slice (some ⟨w.heap.size, 0, none⟩) 1 1) ∧ Blk w' w.heap.size 1 (fun _ => x) ∧ Below w.heap.size w w' ∧ w'.heap.size = w.heap.size + 1 := by
  have H := Lib.hid (fun W => setWord_nil x hx W)
  go_enter Tryz.func39, Tryz.ntmps39
  go_wp2_with fail
  refine (H.out _).mono ?_; rintro e w' ⟨rfl, rfl⟩
  go_wp2
  go_ret
  refine ⟨rfl, ?_, (words_below w 1).setCell (Nat.le_refl _) _, by rw [World.size_setCell]; exact words_size w 1⟩
  exact ((Blk.fresh w 1).set 0 x).congr (fun i hi => by
    obtain rfl : i = 0 := by omega
    exact (upd_same _ 0 x).symm)
set_option maxRecDepth 20000 in
/-- round, where the mantissa fits. -/
theorem round_fit (b prec g n c : Nat) (acc exp : Int) (neg : Bool) (w : World) (h : Flt w b prec acc 1 neg (.slice (some ⟨g, 0, none⟩) n c) exp) (hn : 64 * n ≤ prec) (hp : prec ≤ 1000000) :
    Calls Tryz.prog 30 #[.pointer (some ⟨b, 0, none⟩), .int .u64 0] w fun e w' => e = .returned (.tuple #[]) ∧ w' = w.setCell ⟨b, 2, none⟩ (.int .i8 0) := by
  have c0 := h.c0
  have c2 := h.c2
  have c3 := h.c3
  have c5 := h.c5
  have f2 := h.fr 2
  have d : (n : Int) * 64 ≤ (prec : Int) := by omega
  clear h
  go_enter Tryz.func30, Tryz.ntmps30
  go_wp2
  refine bodyPost_ret (results_none rfl _ _ _) rfl ?_
  exact ⟨rfl, rfl⟩
end Go.Proofs.YtmkdcnemocdefaaGreatFmt
