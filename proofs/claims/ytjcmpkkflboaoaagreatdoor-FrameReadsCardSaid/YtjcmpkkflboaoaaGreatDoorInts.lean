/- Rows of ints and of bools; what sameInts of package meridianlaw4 answers. -/
import Derived.Test.YtjcmpkkflboaoaaGreatDoorTab
import Derived.Maps.AppendAt
namespace Go.Proofs.YtjcmpkkflboaoaaGreatDoor
open Go.RowKit

def IRow (w : World) (a : Option Addr) (len : Nat) (f : Nat → Int) : Prop := len = 0 ∨ ∃ b off, a = some ⟨b, off, none⟩ ∧ ∀ j, j < len → w.cell? ⟨b, off + j, none⟩ = some (.int .i64 (f j))
def Bools (w : World) (a : Option Addr) (len : Nat) (f : Nat → Bool) : Prop := len = 0 ∨ ∃ b off, a = some ⟨b, off, none⟩ ∧ ∀ j, j < len → w.cell? ⟨b, off + j, none⟩ = some (.bool (f j))
theorem IRow.below {w w' : World} {a : Option Addr} {len : Nat} {f : Nat → Int} (h : IRow w a len f) (hb : Below w.heap.size w w') : IRow w' a len f := by
  rcases h with h | ⟨b, off, e, hc⟩
  · exact Or.inl h
  · refine Or.inr ⟨b, off, e, fun j hj => ?_⟩
    have := hc j hj
    rw [hb.cell (p := ⟨b, off + j, none⟩) (cell_lt this)]; exact this
theorem Bools.below {w w' : World} {a : Option Addr} {len : Nat} {f : Nat → Bool} (h : Bools w a len f) (hb : Below w.heap.size w w') : Bools w' a len f := by
  rcases h with h | ⟨b, off, e, hc⟩
  · exact Or.inl h
  · refine Or.inr ⟨b, off, e, fun j hj => ?_⟩
    have := hc j hj
    rw [hb.cell (p := ⟨b, off + j, none⟩) (cell_lt this)]; exact this
/-- The cells, each by itself. -/
theorem IRow.at {w : World} {a : Option Addr} {len : Nat} {f : Nat → Int} (h : IRow w a len f) {j : Nat} (hj : j < len) : ∃ b off, a = some ⟨b, off, none⟩ ∧ b < w.heap.size ∧ w.cell? ⟨b, off + j, none⟩ = some (.int .i64 (f j)) := by
  rcases h with h | ⟨b, off, e, hc⟩
  · omega
  · exact ⟨b, off, e, cell_lt (hc j hj), hc j hj⟩
theorem Bools.at {w : World} {a : Option Addr} {len : Nat} {f : Nat → Bool} (h : Bools w a len f) {j : Nat} (hj : j < len) : ∃ b off, a = some ⟨b, off, none⟩ ∧ b < w.heap.size ∧ w.cell? ⟨b, off + j, none⟩ = some (.bool (f j)) := by
  rcases h with h | ⟨b, off, e, hc⟩
  · omega
  · exact ⟨b, off, e, cell_lt (hc j hj), hc j hj⟩

theorem sameInts_any (f g : Nat → Int) (a b : Option Addr) (len ca cb : Nat) (hl : len ≤ 1000000) (w : World) (ha : IRow w a len f) (hb : IRow w b len g) (h : ∀ j, j < len → f j = g j) :
    Calls Tryz.prog 36 #[.slice a len ca, .slice b len cb] w fun e w' => e = .returned (.bool true) ∧ Below w.heap.size w w' := by
  have HA := Lib.hid (fun j (hj : j < len) => ha.at hj)
  have HB := Lib.hid (fun j (hj : j < len) => hb.at hj)
  have HE := Lib.hid h
  clear ha hb h
  go_enter Tryz.func36, Tryz.ntmps36
  go_wp2
  go_loopw [5] (fun i wr => ∃ k : Nat, k ≤ len ∧ i = .int .i64 k ∧ Hid (Below w.heap.size w wr)) (fun i _ => len - (intOf i).toNat)
  case atStart => exact ⟨0, Nat.zero_le _, rfl, Below.refl _ _⟩
  case round =>
    obtain ⟨k, hk, rfl, hw⟩ := hrel
    by_cases hlt : k < len
    · obtain ⟨ba, oa, rfl, hba, ca1⟩ := HA.out k hlt
      obtain ⟨bb, ob, rfl, hbb, cb1⟩ := HB.out k hlt
      rw [← HE.out k hlt] at cb1
      have c1 : wr.cell? ⟨ba, oa + k, none⟩ = some (.int .i64 (f k)) := by rw [hw.out.cell (p := ⟨ba, oa + k, none⟩) hba]; exact ca1
      have c2 : wr.cell? ⟨bb, ob + k, none⟩ = some (.int .i64 (f k)) := by rw [hw.out.cell (p := ⟨bb, ob + k, none⟩) hbb]; exact cb1
      clear ca1 cb1
      generalize f k = x at *
      have b1 : (x != x) = false := by simp
      go_wp2
      go_quiet (fail)
      go_wp2
      go_roundw
      case rel => exact ⟨k + 1, by omega, by go_num, below_drewN hw.out _⟩
      case measure => simp [intOf]; omega
    · go_wp2
      go_ret
      exact ⟨rfl, hw.out⟩

theorem info_int' : (Tryz.prog.info? 3).map (fun i => (i.zero, i.size, i.bytes)) = some (some (.int .i64 0), 1, 8) := by kernel_rfl
/-- A list of ints that the call gathers. -/
def Gath (w : World) (v : Value) (L : List Int) (wr : World) : Prop := wr.ownsRow w.heap.size 3 1 v L.length (L.map (Value.int .i64)) ∧ Below w.heap.size w wr
theorem Gath.nil (w : World) : Gath w (.slice none 0 0) [] w := ⟨World.ownsRow_nil _ _ _ _, Below.refl _ _⟩
theorem Gath.step {w : World} {v v' : Value} {L : List Int} {x : Int} {wr w1 : World} {o : Obj} (h : Gath w v L wr) (hown : w1.ownsRow w.heap.size 3 1 v' (L.length + 1) (L.map (Value.int .i64) ++ [.int .i64 x])) (hg : (wr.alloc o).grownBy w1 v.ownBlock) : Gath w v' (L ++ [x]) w1 := by
  obtain ⟨h1, h4⟩ := h
  have hs := h4.size
  refine ⟨?_, (h4.alloc hs o).grown hg (by simp only [World.size_alloc]; omega) (fun j hj => (h1.lt j hj).1)⟩
  rw [List.length_append, List.map_append]; exact hown
theorem Gath.row {w : World} {v : Value} {L : List Int} {wr : World} (h : Gath w v L wr) : ∃ a cap, v = .slice a L.length cap ∧ IRow wr a L.length (fun j => L.getD j 0) := by
  rcases h.1.2 with ⟨e, hk0⟩ | ⟨g, cap, cur, e, _⟩
  · rw [hk0]
    exact ⟨none, 0, e, Or.inl rfl⟩
  · refine ⟨some ⟨g, 0, none⟩, cap, e, Or.inr ⟨g, 0, rfl, fun j hj => ?_⟩⟩
    have c1 := h.1.cells (g := g) (by rw [e]; rfl) j (.int .i64 (L.getD j 0)) (by rw [List.getElem?_map, List.getElem?_eq_getElem hj, List.getD_eq_getElem?_getD, List.getElem?_eq_getElem hj]; rfl)
    have ea : (⟨g, 0, none⟩ : Addr).add j = ⟨g, j, none⟩ := by
      unfold Addr.add
      split <;> simp_all
    rw [ea] at c1
    rw [Nat.zero_add]
    exact c1
end Go.Proofs.YtjcmpkkflboaoaaGreatDoor
