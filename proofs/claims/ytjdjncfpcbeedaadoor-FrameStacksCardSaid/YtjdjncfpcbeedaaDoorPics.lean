/- Pictures in a row; smallAll; frame.At at what is no pixel. -/
import Derived.Test.YtjdjncfpcbeedaaDoorPicE
namespace Go.Proofs.YtjdjncfpcbeedaaDoor
open Go.RowKit

/-- What some pictures hold. -/
structure PicsD where
  W : Nat → Int
  H : Nat → Int
  a : Nat → Option Addr
  n : Nat → Nat
  c : Nat → Nat
  f : Nat → Nat → Int
def Pics (w : World) (p : Option Addr) (m : Nat) (D : PicsD) : Prop :=
  m = 0 ∨ ∃ b o, p = some ⟨b, o, none⟩ ∧ ∀ i, i < m → PicAt w b (o + i * 3) (D.W i) (D.H i) (D.a i) (D.n i) (D.c i) (D.f i) ∧ In64 (D.W i) ∧ In64 (D.H i) ∧ D.n i ≤ 9223372036854775807
theorem Pics.below {w w' : World} {p : Option Addr} {m : Nat} {D : PicsD} (h : Pics w p m D) (hb : Below w.heap.size w w') : Pics w' p m D := by
  rcases h with h | ⟨b, o, e, hc⟩
  · exact Or.inl h
  · exact Or.inr ⟨b, o, e, fun i hi => ⟨(hc i hi).1.below hb, (hc i hi).2⟩⟩
theorem Pics.at {w : World} {p : Option Addr} {m : Nat} {D : PicsD} (h : Pics w p m D) {i : Nat} (hi : i < m) : ∃ b o, p = some ⟨b, o, none⟩ ∧ b < w.heap.size ∧ PicAt w b (o + i * 3) (D.W i) (D.H i) (D.a i) (D.n i) (D.c i) (D.f i) ∧ In64 (D.W i) ∧ In64 (D.H i) ∧ D.n i ≤ 9223372036854775807 := by
  rcases h with h | ⟨b, o, e, hc⟩
  · omega
  · exact ⟨b, o, e, cell_lt (hc i hi).1.1, hc i hi⟩

set_option maxHeartbeats 1000000 in
theorem smallAll_any (p : Option Addr) (m cap : Nat) (hm : m ≤ 9223372036854775807) (D : PicsD) (w : World) (h : Pics w p m D) :
    Calls Tryd.prog 14 #[.slice p m cap] w fun e w' => (∃ s : Bool, e = .returned (.bool s) ∧ (s = true → m ≤ 70)) ∧ w = w' := by
  have HA := Lib.hid (fun i (hi : i < m) => h.at hi)
  clear h
  go_enter Tryd.func14, Tryd.ntmps14
  go_wp2
  go_loopw [3, 4] (fun v i wr => ∃ (x : Int) (k : Nat), k ≤ m ∧ i = .int .i64 k ∧ v = .int .i64 x ∧ w = wr) (fun _ i _ => m - (intOf i).toNat)
  case atStart => exact ⟨0, 0, Nat.zero_le _, rfl, rfl, rfl⟩
  case round =>
    obtain ⟨x, k, hk, rfl, rfl, rfl⟩ := hrel
    by_cases hlt : k < m
    · obtain ⟨b, o, rfl, hb, hp, _, _, hn⟩ := HA.out k hlt
      have k2 := hp.2.2.1
      clear hp
      go_wp2
      go_roundw
      case rel => exact ⟨_, k + 1, by omega, by go_num, rfl, by simp⟩
      case measure => simp [intOf]; omega
    · obtain rfl : k = m := by omega
      by_cases h70 : k ≤ 70
      · go_wp2
        go_ret
        exact ⟨⟨_, rfl, fun _ => h70⟩, rfl⟩
      · have d : decide ((k : Int) ≤ 70) = false := by simp; omega
        go_wp2
        go_ret
        exact ⟨⟨false, rfl, fun h => by cases h⟩, rfl⟩
theorem at_bad (ad : Nat → Addr) (W H x y : Int) (f : Nat → Int) (a : Option Addr) (n cap : Nat) (w : World) (he : Errs w ad [1, 4]) (h : IRow w a n f) (hn : n ≤ 9223372036854775807) (g : ¬ picG W H n f) :
    Calls Tryd.prog 20 #[.agg #[.int .i64 W, .int .i64 H, .slice a n cap], .int .i64 x, .int .i64 y] w fun e w' => e = .returned (.tuple #[.int .i64 0, .bool false]) ∧ Below w.heap.size w w' := by
  have hb0 : ∀ o, Below w.heap.size w (w.alloc o) := fun o => (Below.refl _ _).alloc (Nat.le_refl _) _
  have HV := Lib.hid (fun o => validP_bad ad W H f a n cap (w.alloc o) (he.below (hb0 o)) (h.below (hb0 o)) hn g)
  have HB0 := Lib.hid hb0
  clear he h g hb0
  unfold errV at HV
  generalize picB W H = pb at *
  go_enter Tryd.func20, Tryd.ntmps20
  go_wp2_with fail
  refine (HV.out _).mono ?_; rintro e w1 ⟨rfl, hb1⟩
  have HB := Lib.hid (below_step (HB0.out _) hb1)
  clear hb1 HV
  go_wp2
  go_ret2
  exact ⟨rfl, HB.out⟩
set_option maxHeartbeats 1000000 in
theorem at_out (ad : Nat → Addr) (W H x y : Int) (f : Nat → Int) (a : Option Addr) (n cap : Nat) (w : World) (he : Errs w ad [1, 4]) (h : IRow w a n f) (g : picG W H n f) (hno : ¬ (0 ≤ x ∧ x < W ∧ 0 ≤ y ∧ y < H)) :
    Calls Tryd.prog 20 #[.agg #[.int .i64 W, .int .i64 H, .slice a n cap], .int .i64 x, .int .i64 y] w fun e w' => e = .returned (.tuple #[.int .i64 0, .bool false]) ∧ Below w.heap.size w w' := by
  have hb0 : ∀ o, Below w.heap.size w (w.alloc o) := fun o => (Below.refl _ _).alloc (Nat.le_refl _) _
  have HV := Lib.hid (fun o => validP_ok ad W H f a n cap (w.alloc o) (he.below (hb0 o)) (h.below (hb0 o)) g)
  have HB0 := Lib.hid hb0
  clear he h g hb0
  go_enter Tryd.func20, Tryd.ntmps20
  go_wp2_with fail
  refine (HV.out _).mono ?_; rintro e w1 ⟨rfl, hb1⟩
  have q0 : w1.cell? ⟨w.heap.size, 0, none⟩ = some (.int .i64 W) := by rw [hb1.cell (p := ⟨w.heap.size, 0, none⟩) (by simp)]; simp
  have q3 : w1.cell? ⟨w.heap.size, 1, none⟩ = some (.int .i64 H) := by rw [hb1.cell (p := ⟨w.heap.size, 1, none⟩) (by simp)]; simp
  have HB := Lib.hid (below_step (HB0.out _) hb1)
  clear hb1 HV
  by_cases c1 : x < 0
  · have d1 : decide (x < 0) = true := by simpa using c1
    clear hno
    go_wp2
    go_ret2
    exact ⟨rfl, HB.out⟩
  have d1 : decide (x < 0) = false := by simp; omega
  by_cases c2 : y < 0
  · have d2 : decide (y < 0) = true := by simpa using c2
    clear hno
    go_wp2
    go_ret2
    exact ⟨rfl, HB.out⟩
  have d2 : decide (y < 0) = false := by simp; omega
  by_cases c3 : W ≤ x
  · have d3 : decide (W ≤ x) = true := by simpa using c3
    clear hno
    go_wp2
    go_ret2
    exact ⟨rfl, HB.out⟩
  have d3 : decide (W ≤ x) = false := by simp; omega
  by_cases c4 : H ≤ y
  · have d4 : decide (H ≤ y) = true := by simpa using c4
    clear hno
    go_wp2
    go_ret2
    exact ⟨rfl, HB.out⟩
  exact absurd ⟨by omega, by omega, by omega, by omega⟩ hno
theorem alike_any (W H V U : Int) (a b : Option Addr) (n m c d : Nat) (w : World) :
    Calls Tryd.prog 44 #[.agg #[.int .i64 W, .int .i64 H, .slice a n c], .agg #[.int .i64 V, .int .i64 U, .slice b m d]] w fun e w' => e = .returned (.bool (decide (W = V ∧ H = U))) ∧ Below w.heap.size w w' := by
  by_cases h1 : W = V
  · by_cases h2 : H = U
    · have e1 : (W == V) = true := by simpa using h1
      have e2 : (H == U) = true := by simpa using h2
      rw [show decide (W = V ∧ H = U) = true by simp [h1, h2]]
      clear h1 h2
      go_enter Tryd.func44, Tryd.ntmps44
      go_wp2
      go_ret
      exact ⟨by simp [e1, e2], by go_grown⟩
    · have e1 : (W == V) = true := by simpa using h1
      have e2 : (H == U) = false := by simpa using h2
      rw [show decide (W = V ∧ H = U) = false by simp [h2]]
      clear h1 h2
      go_enter Tryd.func44, Tryd.ntmps44
      go_wp2
      go_ret
      exact ⟨by simp [e1, e2], by go_grown⟩
  · have e1 : (W == V) = false := by simpa using h1
    rw [show decide (W = V ∧ H = U) = false by simp [h1]]
    clear h1
    go_enter Tryd.func44, Tryd.ntmps44
    go_wp2
    go_ret
    exact ⟨by simp [e1], by go_grown⟩
end Go.Proofs.YtjdjncfpcbeedaaDoor
