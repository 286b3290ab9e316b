/- nat.make, nat.set, nat.setUint64. -/
import Derived.Test.YtmkdcnemocdefaaGreatFmtCopy
import Derived.Test.YtmkdcnemocdefaaGreatFmtNumP
namespace Go.Proofs.YtmkdcnemocdefaaGreatFmt
open Go.RowKit

/-- A row that the call has made, or one that was there and is written anew: N in k words, at most M. -/
def NatR (w w' : World) (v : Value) (g0 c0 M N : Nat) : Prop := ∃ g c k f, v = .slice (some ⟨g, 0, none⟩) k c ∧ Blk w' g c f ∧ Wds f k ∧ k ≤ c ∧ num f k = N ∧ (k = 0 ∨ f (k - 1) ≠ 0) ∧ k ≤ M ∧
  (g = g0 ∧ c = c0 ∨ w.heap.size ≤ g ∧ c ≤ M + 4) ∧ Kept w w' g ∧ (∀ B, B ≤ g → B ≤ w.heap.size → Below B w w')
/-- Room for n words. -/
def Room (w w' : World) (v : Value) (g0 c0 n : Nat) : Prop := ∃ g c f, v = .slice (some ⟨g, 0, none⟩) n c ∧ Blk w' g c f ∧ n ≤ c ∧ (g = g0 ∧ c = c0 ∨ w.heap.size ≤ g ∧ c ≤ n + 4) ∧ Below w.heap.size w w'
/-- What a row is before it is given room: none, or one of c0 words at block g0. -/
def Old (w : World) (v : Value) (g0 c0 : Nat) : Prop := v = .slice none 0 0 ∧ c0 = 0 ∨ ∃ k f, v = .slice (some ⟨g0, 0, none⟩) k c0 ∧ Blk w g0 c0 f

theorem make_fit (g k cap n : Nat) (h : n ≤ cap) (w : World) :
    Calls Tryz.prog 58 #[.slice (some ⟨g, 0, none⟩) k cap, .int .i64 (n : Int)] w fun e w' => e = .returned (.slice (some ⟨g, 0, none⟩) n cap) ∧ w' = w := by
  have d : (n : Int) ≤ (cap : Int) := by omega
  go_enter Tryz.func58, Tryz.ntmps58
  go_wp2
  go_ret
  exact ⟨rfl, rfl⟩
theorem make_new (a : Option Addr) (k cap n : Nat) (h : cap < n) (hn : n ≤ 900000) (w : World) :
    Calls Tryz.prog 58 #[.slice a k cap, .int .i64 (n : Int)] w fun e w' => ∃ c, n ≤ c ∧ c ≤ n + 4 ∧ e = .returned (.slice (some ⟨w.heap.size, 0, none⟩) n c) ∧ w' = wordsW w c := by
  have d : ¬ ((n : Int) ≤ (cap : Int)) := by omega
  by_cases h1 : n = 1
  · subst h1
    have hr : ∀ W, (Instr.makeSlice 34 (.int .i64 1) (.int .i64 1)).run Tryz.prog W = .ok (.slice (some ⟨W.heap.size, 0, none⟩) 1 1) (wordsW W 1) := fun W => run_words 1 1 (by omega) (by omega) W
    go_enter Tryz.func58, Tryz.ntmps58
    go_wp2
    go_ret
    exact ⟨1, by omega, by omega, rfl, rfl⟩
  · have n1 : ¬ ((n : Int) = 1) := by omega
    have hr : ∀ W, (Instr.makeSlice 34 (.int .i64 (n : Int)) (.int .i64 ((n : Int) + 4))).run Tryz.prog W = .ok (.slice (some ⟨W.heap.size, 0, none⟩) n (n + 4)) (wordsW W (n + 4)) := fun W => by
      have r := run_words n (n + 4) (by omega) (by omega) W
      rw [show ((n + 4 : Nat) : Int) = (n : Int) + 4 by omega] at r
      exact r
    go_enter Tryz.func58, Tryz.ntmps58
    go_wp2
    go_ret
    exact ⟨n + 4, by omega, by omega, rfl, rfl⟩
theorem make_any (v : Value) (g0 c0 n : Nat) (hn : n ≤ 900000) (h1 : 1 ≤ n) (w : World) (hv : Old w v g0 c0) :
    Calls Tryz.prog 58 #[v, .int .i64 (n : Int)] w fun e w' => ∃ r, e = .returned r ∧ Room w w' r g0 c0 n := by
  have new : ∀ a k, c0 < n → Calls Tryz.prog 58 #[.slice a k c0, .int .i64 (n : Int)] w fun e w' => ∃ r, e = .returned r ∧ Room w w' r g0 c0 n := fun a k h =>
    (make_new a k c0 n h hn w).mono (by
      rintro e w' ⟨c, hc1, hc2, rfl, rfl⟩
      exact ⟨_, rfl, w.heap.size, c, _, rfl, Blk.fresh w c, hc1, Or.inr ⟨Nat.le_refl _, hc2⟩, words_below w c⟩)
  rcases hv with ⟨rfl, rfl⟩ | ⟨k, f, rfl, hb⟩
  · exact new none 0 (by omega)
  · rcases Nat.lt_or_ge c0 n with h | h
    · exact new _ _ h
    · refine (make_fit g0 k c0 n h w).mono ?_
      rintro e w' ⟨rfl, rfl⟩
      exact ⟨_, rfl, g0, c0, f, rfl, hb, h, Or.inl ⟨rfl, rfl⟩, Below.refl _ _⟩
/-- What is behind room and a row written into it. -/
theorem Room.kept {w w1 w2 : World} {g : Nat} (h : Below w.heap.size w w1) (k : Kept w1 w2 g) : Kept w w2 g := fun b hb hne => (k b (Nat.lt_of_lt_of_le hb h.size) hne).trans (h.block b hb)
theorem WR.old {w w1 : World} {g o n : Nat} {x : Nat → Nat} (hx : WR w g o n x) (h : Below w.heap.size w w1) : WR w1 g o n x := fun j hj => by
  have c := hx j hj
  rw [h.cell (p := ⟨g, o + j, none⟩) (cell_lt c)]; exact c

set_option maxHeartbeats 1000000 in
theorem set_any (v : Value) (g0 c0 gx cx n : Nat) (x : Nat → Nat) (w : World) (hv : Old w v g0 c0) (hx : WR w gx 0 n x) (wx : Wds x n) (ht : n = 0 ∨ x (n - 1) ≠ 0) (h1 : 1 ≤ n) (hn : n ≤ 900000) :
    Calls Tryz.prog 54 #[v, .slice (some ⟨gx, 0, none⟩) n cx] w fun e w' => ∃ r, e = .returned r ∧ NatR w w' r g0 c0 n (num x n) := by
  have HM := Lib.hid (make_any v g0 c0 n hn h1 w hv)
  have HX := Lib.hid hx
  have lx : gx < w.heap.size := cell_lt (hx 0 (by omega))
  have WX := Lib.hid wx
  clear hx hv wx
  go_enter Tryz.func54, Tryz.ntmps54
  go_wp2_with fail
  refine HM.out.mono ?_; rintro e w1 ⟨r, rfl, g, c, f, rfl, hb, hc, hg, hB⟩
  have HB := Lib.hid hB
  obtain ⟨w2, hr, hb2, ho2⟩ := copy_words 34 Tryz.underlying34 3 g 0 n c gx 0 n cx n c x f w1 hb (HX.out.old hB) (by simp) (by omega)
  have HB2 := Lib.hid hb2
  have HO2 := Lib.hid ho2
  clear hb hb2 ho2 hB
  go_wp2_with (at_builtin; refine Lib.wpList_copy_run _ rfl _ _ 34 34 rfl _ _ rfl rfl hr ?_)
  go_ret
  refine ⟨_, rfl, g, c, n, _, rfl, HB2.out, ?_, hc, ?_, ?_, Nat.le_refl _, hg, Room.kept HB.out HO2.out.kept, fun B h1 h2 => (HB.out.mono h2).trans (HO2.out.2.2.mono h1)⟩
  · intro i hi
    have e := put_in f 0 n x i hi
    rw [Nat.zero_add] at e
    rw [e]; exact WX.out i hi
  · refine num_congr fun i hi => ?_
    have e := put_in f 0 n x i hi
    rw [Nat.zero_add] at e
    exact e
  · rcases ht with h | h
    · exact Or.inl h
    · have e := put_in f 0 n x (n - 1) (by omega)
      rw [Nat.zero_add] at e
      rw [e]; exact Or.inr h
end Go.Proofs.YtmkdcnemocdefaaGreatFmt
