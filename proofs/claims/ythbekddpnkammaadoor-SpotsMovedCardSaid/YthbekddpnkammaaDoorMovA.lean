/- SpotsMoved of package meridianlaw4: where nothing is asked; what is laid for the walk. -/
import Derived.Test.YthbekddpnkammaaDoorMovP
import Derived.Test.YthbekddpnkammaaDoorSpotd
import Derived.Test.YthbekddpnkammaaDoorSmall
import Derived.Test.YthbekddpnkammaaDoorPicE
import Derived.BigRegion
import Derived.BigQuiet
namespace Go.Proofs.YthbekddpnkammaaDoor
open Go.RowKit

set_option maxRecDepth 10000 in
set_option maxHeartbeats 1000000 in
/-- The law where the picture is great, or none. -/
theorem moved_great (ad : Nat → Addr) {w : World} (hE : Errs w ad [1, 4]) (x : Option Addr) (over dx dy : Int)
    (hSm : ∀ W, Below w.heap.size w W → Calls Tryd.prog 7 #[.pointer x] W fun e w' => e = .returned (.bool false) ∧ W = w') :
    Calls Tryd.prog 3 #[.pointer x, .int .i64 over, .int .i64 dx, .int .i64 dy] w fun e w' => e = .returned (.bool true) ∧ Below w.heap.size w w' := by
  have HS := Lib.hid (spotted_any ad w hE)
  have HSm := Lib.hid hSm
  clear hE hSm
  go_enter Tryd.func3, Tryd.ntmps3
  go_wp2_with fail
  refine HS.out.mono ?_; rintro e w1 ⟨rfl, hb1⟩
  have B1 := Lib.hid hb1
  clear hb1 HS
  go_wp2_with fail
  refine (HSm.out _ B1.out).mono ?_; rintro e w2 ⟨rfl, rfl⟩
  go_wp2
  go_ret
  exact ⟨rfl, B1.out⟩
set_option maxRecDepth 10000 in
set_option maxHeartbeats 1000000 in
/-- The law where the step is great, or back. -/
theorem moved_far (ad : Nat → Addr) {w : World} (hE : Errs w ad [1, 4]) (x : Option Addr) (over dx dy : Int) (hD : dx < 0 ∨ dy < 0 ∨ 10 < dx ∨ 10 < dy)
    (hSm : ∀ W, Below w.heap.size w W → Calls Tryd.prog 7 #[.pointer x] W fun e w' => e = .returned (.bool true) ∧ W = w') :
    Calls Tryd.prog 3 #[.pointer x, .int .i64 over, .int .i64 dx, .int .i64 dy] w fun e w' => e = .returned (.bool true) ∧ Below w.heap.size w w' := by
  have HS := Lib.hid (spotted_any ad w hE)
  have HSm := Lib.hid hSm
  clear hE hSm
  go_enter Tryd.func3, Tryd.ntmps3
  go_wp2_with fail
  refine HS.out.mono ?_; rintro e w1 ⟨rfl, hb1⟩
  have B1 := Lib.hid hb1
  clear hb1 HS
  go_wp2_with fail
  refine (HSm.out _ B1.out).mono ?_; rintro e w2 ⟨rfl, rfl⟩
  by_cases c1 : dx < 0
  · have d1 : decide (dx < 0) = true := by simpa using c1
    clear hD c1
    go_wp2
    go_ret
    exact ⟨rfl, B1.out⟩
  · have d1 : decide (dx < 0) = false := by simpa using c1
    by_cases c2 : dy < 0
    · have d2 : decide (dy < 0) = true := by simpa using c2
      clear hD c1 c2
      go_wp2
      go_ret
      exact ⟨rfl, B1.out⟩
    · have d2 : decide (dy < 0) = false := by simpa using c2
      by_cases c3 : 10 < dx
      · have d3 : decide (10 < dx) = true := by simpa using c3
        clear hD c1 c2 c3
        go_wp2
        go_ret
        exact ⟨rfl, B1.out⟩
      · have d3 : decide (10 < dx) = false := by simpa using c3
        have d4 : decide (10 < dy) = true := by simp; omega
        clear hD c1 c2 c3
        go_wp2
        go_ret
        exact ⟨rfl, B1.out⟩
set_option maxRecDepth 10000 in
set_option maxHeartbeats 1000000 in
/-- The law where the picture is wrong. -/
theorem moved_wrong (ad : Nat → Addr) {w : World} (hE : Errs w ad [1, 4]) (x : Option Addr) (over dx dy : Int) (h1 : 0 ≤ dx) (h2 : 0 ≤ dy) (h3 : dx ≤ 10) (h4 : dy ≤ 10) (e0 : Int) (he0 : 0 < e0)
    (hP : ∀ W, Below w.heap.size w W → Calls Tryd.prog 8 #[.pointer x] W fun e w' => e = .returned (.int .i64 e0) ∧ Below W.heap.size W w')
    (hSm : ∀ W, Below w.heap.size w W → Calls Tryd.prog 7 #[.pointer x] W fun e w' => e = .returned (.bool true) ∧ W = w') :
    Calls Tryd.prog 3 #[.pointer x, .int .i64 over, .int .i64 dx, .int .i64 dy] w fun e w' => e = .returned (.bool true) ∧ Below w.heap.size w w' := by
  have HS := Lib.hid (spotted_any ad w hE)
  have HSm := Lib.hid hSm
  have HP := Lib.hid hP
  have d1 : decide (dx < 0) = false := by simp; omega
  have d2 : decide (dy < 0) = false := by simp; omega
  have d3 : decide (10 < dx) = false := by simp; omega
  have d4 : decide (10 < dy) = false := by simp; omega
  have d5 : decide (0 < e0) = true := by simpa using he0
  clear hE hSm hP h1 h2 h3 h4
  go_enter Tryd.func3, Tryd.ntmps3
  go_wp2_with fail
  refine HS.out.mono ?_; rintro e w1 ⟨rfl, hb1⟩
  have B1 := Lib.hid hb1
  clear hb1 HS
  go_wp2_with fail
  refine (HSm.out _ B1.out).mono ?_; rintro e w2 ⟨rfl, rfl⟩
  go_wp2_with fail
  refine (HP.out _ B1.out).mono ?_; rintro e w3 ⟨rfl, hb3⟩
  have B3 := Lib.hid (below_step B1.out hb3)
  clear hb3 HP
  go_wp2
  go_ret
  exact ⟨rfl, B3.out⟩
set_option maxRecDepth 10000 in
set_option maxHeartbeats 1000000 in
/-- The law where the picture is too great to be moved, or dark pixels were lit. -/
theorem moved_large (ad : Nat → Addr) {w : World} (hE : Errs w ad [1, 4]) (over dx dy : Int) (h1 : 0 ≤ dx) (h2 : 0 ≤ dy) (h3 : dx ≤ 10) (h4 : dy ≤ 10) (W H : Int) (f : Nat → Int) (b o : Nat) (a : Option Addr) (n cap : Nat) (hp : PicAt w b o W H a n cap f) (g : picG W H n f) (hB : 20 < W ∨ 20 < H ∨ over < 1)
    (hSm : ∀ W, Below w.heap.size w W → Calls Tryd.prog 7 #[.pointer (some ⟨b, o, none⟩)] W fun e w' => e = .returned (.bool true) ∧ W = w') :
    Calls Tryd.prog 3 #[.pointer (some ⟨b, o, none⟩), .int .i64 over, .int .i64 dx, .int .i64 dy] w fun e w' => e = .returned (.bool true) ∧ Below w.heap.size w w' := by
  have HS := Lib.hid (spotted_any ad w hE)
  have HSm := Lib.hid hSm
  have HP := Lib.hid (fun w' (hb : Below w.heap.size w w') => picE_ok b o W H f a n cap w' (hp.below hb) g)
  have HPi := Lib.hid hp
  have d1 : decide (dx < 0) = false := by simp; omega
  have d2 : decide (dy < 0) = false := by simp; omega
  have d3 : decide (10 < dx) = false := by simp; omega
  have d4 : decide (10 < dy) = false := by simp; omega
  clear hE hSm hp g h1 h2 h3 h4
  go_enter Tryd.func3, Tryd.ntmps3
  go_wp2_with fail
  refine HS.out.mono ?_; rintro e w1 ⟨rfl, hb1⟩
  have B1 := Lib.hid hb1
  clear hb1 HS
  go_wp2_with fail
  refine (HSm.out _ B1.out).mono ?_; rintro e w2 ⟨rfl, rfl⟩
  go_wp2_with fail
  refine (HP.out _ B1.out).mono ?_; rintro e w3 ⟨rfl, hb3⟩
  have B3 := Lib.hid (below_step B1.out hb3)
  have hq := HPi.out.below B3.out
  have k0 := hq.1
  have k1 := hq.2.1
  clear hb3 HP hq
  by_cases c5 : 20 < W
  · have d5 : decide (20 < W) = true := by simpa using c5
    clear hB c5
    go_wp2
    go_ret
    exact ⟨rfl, B3.out⟩
  · have d5 : decide (20 < W) = false := by simpa using c5
    by_cases c6 : 20 < H
    · have d6 : decide (20 < H) = true := by simpa using c6
      clear hB c5 c6
      go_wp2
      go_ret
      exact ⟨rfl, B3.out⟩
    · have d6 : decide (20 < H) = false := by simpa using c6
      have d7 : decide (over < 1) = true := by simp; omega
      clear hB c5 c6
      go_wp2
      go_ret
      exact ⟨rfl, B3.out⟩

/-! ### what is laid for the walk -/
/-- A picture in a block of its own. -/
def Box3 (w : World) (g : Nat) (V K : Nat) (m N : Nat) : Prop := w.cell? ⟨g, 0, none⟩ = some (.int .i64 V) ∧ w.cell? ⟨g, 1, none⟩ = some (.int .i64 K) ∧ w.cell? ⟨g, 2, none⟩ = some (.slice (some ⟨m, 0, none⟩) N N)
theorem Box3.set {w : World} {g V K m N q c : Nat} {v : Value} (h : Box3 w g V K m N) (hne : q ≠ g) : Box3 (w.setCell ⟨q, c, none⟩ v) g V K m N := by
  obtain ⟨h0, h1, h2⟩ := h
  have k : ∀ i, (⟨g, i, none⟩ : Addr) ≠ ⟨q, c, none⟩ := fun i e => by injection e with e1 e2; exact hne e1.symm
  exact ⟨by rw [World.cell?_setCell_other _ _ _ _ (Ne.symm (k 0))]; exact h0, by rw [World.cell?_setCell_other _ _ _ _ (Ne.symm (k 1))]; exact h1, by rw [World.cell?_setCell_other _ _ _ _ (Ne.symm (k 2))]; exact h2⟩
theorem Box3.drew {w : World} {g V K m N : Nat} (h : Box3 w g V K m N) : Box3 w.drew g V K m N := h
theorem Box3.below {w w' : World} {g V K m N : Nat} (h : Box3 w g V K m N) (hb : Below w.heap.size w w') : Box3 w' g V K m N := by
  obtain ⟨h0, h1, h2⟩ := h
  have hl := cell_lt h0
  exact ⟨by rw [hb.cell (p := ⟨g, 0, none⟩) hl]; exact h0, by rw [hb.cell (p := ⟨g, 1, none⟩) hl]; exact h1, by rw [hb.cell (p := ⟨g, 2, none⟩) hl]; exact h2⟩
theorem box3_new (w : World) (V K m N : Nat) (t : TypeId) : Box3 (w.alloc (.cells #[.int .i64 V, .int .i64 K, .slice (some ⟨m, 0, none⟩) N N] t)) w.heap.size V K m N := by
  refine ⟨?_, ?_, ?_⟩ <;> simp
theorem OutZ.other {w : World} {g n q c : Nat} {Z : Nat → Int} {v : Value} (h : OutZ w g n Z) (hne : q ≠ g) : OutZ (w.setCell ⟨q, c, none⟩ v) g n Z := fun j hj => by
  have k : (⟨g, j, none⟩ : Addr) ≠ ⟨q, c, none⟩ := fun e => by injection e with e1 e2; exact hne e1.symm
  exact ⟨by rw [World.cell?_setCell_other _ _ _ _ (Ne.symm k)]; exact (h j hj).1, by rw [World.frozen?_setCell]; exact (h j hj).2⟩
/-- One pixel more put. -/
theorem puts_next {w : World} {g N i : Nat} {pos : Nat → Nat} {f : Nat → Int} (h : OutZ w g N (putsF pos f i)) (hp : pos i < N) : OutZ (w.setCell ⟨g, pos i, none⟩ (.int .i64 (f i))) g N (putsF pos f (i + 1)) :=
  (h.put hp (f i)).congr (fun _ _ => rfl)
set_option maxHeartbeats 400000 in
/-- The numbers on the way to a pixel's places. -/
theorem pos_nums {W H dx dy i : Nat} (hW : 1 ≤ W) (hW2 : W ≤ 20) (hH2 : H ≤ 20) (hdx : dx ≤ 10) (hdy : dy ≤ 10) (hi : i < W * H) : ∃ Q R X Y V P1 P2 Y2 P3 : Nat,
    (V = W + 30 ∧ (P2 : Nat) = posM W 0 0 i ∧ (P3 + X + dx : Nat) = posM W dx dy i) ∧
    ((i : Int) / (W : Int) = (Q : Int) ∧ (i : Int).tdiv (W : Int) = (Q : Int) ∧ (i : Int) % (W : Int) = (R : Int) ∧ (i : Int).tmod (W : Int) = (R : Int)) ∧
    ((Q : Int) + 1 = (Y : Int) ∧ (R : Int) + 1 = (X : Int) ∧ (Y : Int) * (V : Int) = (P1 : Int) ∧ (P1 : Int) + (X : Int) = (P2 : Int) ∧ (Y : Int) + (dy : Int) = (Y2 : Int) ∧ (Y2 : Int) * (V : Int) = (P3 : Int)) ∧
    (Q ≤ 100000 ∧ R ≤ 100000 ∧ X ≤ 100000 ∧ Y ≤ 100000 ∧ P1 ≤ 100000 ∧ P2 ≤ 100000 ∧ Y2 ≤ 100000 ∧ P3 ≤ 100000 ∧ P3 + X + dx ≤ 100000) ∧
    ¬ ((W : Int) = 0) ∧ ¬ (W = 0) ∧ ((W : Int) == 0) = false := by
  obtain ⟨r1, r2⟩ := pos_row hW hi
  have l1 := pos_lt (dx := 0) (dy := 0) hW (by omega) (by omega) hi
  have l2 := pos_lt hW hdx hdy hi
  have hb : (W + 30) * (H + 30) ≤ 2500 := Nat.mul_le_mul (show W + 30 ≤ 50 by omega) (show H + 30 ≤ 50 by omega)
  replace l1 := Nat.lt_of_lt_of_le l1 hb
  replace l2 := Nat.lt_of_lt_of_le l2 hb
  clear hb
  have e1 : (i : Int) / (W : Int) = ((i / W : Nat) : Int) := (Int.natCast_ediv _ _).symm
  have e2 : (i : Int) % (W : Int) = ((i % W : Nat) : Int) := (Int.natCast_emod _ _).symm
  have t1 : (i : Int).tdiv (W : Int) = ((i / W : Nat) : Int) := (Int.tdiv_eq_ediv_of_nonneg (Int.natCast_nonneg _)).trans e1
  have t2 : (i : Int).tmod (W : Int) = ((i % W : Nat) : Int) := (Int.tmod_eq_emod_of_nonneg (Int.natCast_nonneg _)).trans e2
  have p1 : posM W 0 0 i = (i / W + 1) * (W + 30) + (i % W + 1) := rfl
  have p2 : posM W dx dy i = (i / W + 1 + dy) * (W + 30) + (i % W + 1 + dx) := rfl
  generalize posM W 0 0 i = A at *
  generalize posM W dx dy i = B at *
  generalize i / W = Q at *
  generalize i % W = R at *
  have eu : ((Q + 1 : Nat) : Int) * ((W + 30 : Nat) : Int) = (((Q + 1) * (W + 30) : Nat) : Int) := (Int.natCast_mul _ _).symm
  have ev : ((Q + 1 + dy : Nat) : Int) * ((W + 30 : Nat) : Int) = (((Q + 1 + dy) * (W + 30) : Nat) : Int) := (Int.natCast_mul _ _).symm
  generalize (Q + 1) * (W + 30) = u at *
  generalize (Q + 1 + dy) * (W + 30) = v at *
  have z1 : ((W : Int) == 0) = false := by simp; omega
  have z2 : ¬ ((W : Int) = 0) := by omega
  have z3 : ¬ (W = 0) := by omega
  have y1 : (Q : Int) + 1 = ((Q + 1 : Nat) : Int) := by omega
  have y2 : (R : Int) + 1 = ((R + 1 : Nat) : Int) := by omega
  have y3 : ((Q + 1 : Nat) : Int) + (dy : Int) = ((Q + 1 + dy : Nat) : Int) := by omega
  have y4 : (u : Int) + ((R + 1 : Nat) : Int) = (A : Int) := by omega
  have y5 : v + (R + 1) + dx = B := by omega
  have k : Q ≤ 100000 ∧ R ≤ 100000 ∧ R + 1 ≤ 100000 ∧ Q + 1 ≤ 100000 ∧ u ≤ 100000 ∧ A ≤ 100000 ∧ Q + 1 + dy ≤ 100000 ∧ v ≤ 100000 ∧ v + (R + 1) + dx ≤ 100000 := by omega
  generalize Q + 1 + dy = Y2 at *
  generalize Q + 1 = Y at *
  generalize R + 1 = X at *
  obtain ⟨V, hV⟩ : ∃ V, V = W + 30 := ⟨_, rfl⟩
  rw [← hV] at eu ev
  exact ⟨Q, R, X, Y, V, u, A, Y2, v, ⟨hV, rfl, y5⟩, ⟨e1, t1, e2, t2⟩, ⟨y1, y2, eu, y4, y3, ev⟩, k, z2, z3, z1⟩
end Go.Proofs.YthbekddpnkammaaDoor
