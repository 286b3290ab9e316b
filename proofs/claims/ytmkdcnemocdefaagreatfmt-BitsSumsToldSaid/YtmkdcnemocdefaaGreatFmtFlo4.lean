/- ucmp: two numbers' sizes. -/
import Derived.Test.YtmkdcnemocdefaaGreatFmtFlo3
namespace Go.Proofs.YtmkdcnemocdefaaGreatFmt
open Go.RowKit

theorem man_lt {K N1 n1 A1 S1 N2 n2 A2 S2 : Nat} (h1 : Man K N1 n1 A1 S1) (h2 : Man K N2 n2 A2 S2) (h : A1 + 64 * n1 < A2 + 64 * n2) : S1 < S2 := by
  have a := h1.size.2
  have b := h2.size.1
  have t1 := h1.top
  have p : (2 : Nat) ^ (A1 + 64 * n1 - K) * 2 ≤ 2 ^ (A2 + 64 * n2 - K) := by
    rw [← Nat.pow_succ]
    exact Nat.pow_le_pow_right (by decide) (by omega)
  omega
/-- The word that ucmp reads at its step t. -/
def wAt (f : Nat → Nat) (n t : Nat) : Nat := if t < n then f (n - 1 - t) else 0
theorem topw_step (f : Nat → Nat) (n t : Nat) : topw f n (t + 1) = topw f n t * 2 ^ 64 + wAt f n t := rfl
theorem cmp_less {K A1 A2 n1 n2 S1 S2 t : Nat} {f g : Nat → Nat} (h1 : Man K (num f n1) n1 A1 S1) (h2 : Man K (num g n2) n2 A2 S2) (he : A1 + 64 * n1 = A2 + 64 * n2) (wf : Wds f n1)
    (ht : topw f n1 t < topw g n2 t) : S1 < S2 := by
  have b := topw_lt (m := n2) (g := g) wf t ht (n1 + n2)
  have ⟨c1, c2⟩ := man_cmp h1.val h2.val he (u := t + (n1 + n2)) (by omega) (by omega)
  have q := Nat.mul_lt_mul_of_pos_right b (Nat.two_pow_pos (A1 + 64 * n1))
  rw [← c1, ← c2] at q
  exact Nat.lt_of_mul_lt_mul_right q
theorem cmp_same {K A1 A2 n1 n2 S1 S2 t : Nat} {f g : Nat → Nat} (h1 : Man K (num f n1) n1 A1 S1) (h2 : Man K (num g n2) n2 A2 S2) (he : A1 + 64 * n1 = A2 + 64 * n2)
    (ht : topw f n1 t = topw g n2 t) (u1 : n1 ≤ t) (u2 : n2 ≤ t) : S1 = S2 := by
  have ⟨c1, c2⟩ := man_cmp h1.val h2.val he u1 u2
  rw [ht, ← c2] at c1
  exact Nat.eq_of_mul_eq_mul_right (Nat.two_pow_pos _) c1
theorem topw_less {f g : Nat → Nat} {n m t : Nat} (h : topw f n t = topw g m t) (hw : wAt f n t < wAt g m t) : topw f n (t + 1) < topw g m (t + 1) := by
  rw [topw_step, topw_step, h]; omega

set_option maxRecDepth 20000 in
set_option maxHeartbeats 2000000 in
theorem ucmp_any (K bx by' gx gy cx cy nx ny A1 A2 S1 S2 p1 p2 : Nat) (a1 a2 : Int) (s1 s2 : Bool) (x y : Nat → Nat) (w : World)
    (hx : Flt w bx p1 a1 1 s1 (.slice (some ⟨gx, 0, none⟩) nx cx) ((A1 + 64 * nx : Nat) - (K : Int) - 1074)) (hy : Flt w by' p2 a2 1 s2 (.slice (some ⟨gy, 0, none⟩) ny cy) ((A2 + 64 * ny : Nat) - (K : Int) - 1074))
    (wx : WR w gx 0 nx x) (wy : WR w gy 0 ny y) (vx : Wds x nx) (vy : Wds y ny) (m1 : Man K (num x nx) nx A1 S1) (m2 : Man K (num y ny) ny A2 S2) (n1 : nx ≤ 1000000) (n2 : ny ≤ 1000000) :
    Calls Tryz.prog 34 #[.pointer (some ⟨bx, 0, none⟩), .pointer (some ⟨by', 0, none⟩)] w fun e w' => ∃ r : Int, e = .returned (.int .i64 r) ∧ (0 < r ↔ S2 < S1) ∧ ∃ m, w' = w.drewN m := by
  have x5 := hx.c5
  have x6 := hx.c6
  have y5 := hy.c5
  have y6 := hy.c6
  have t1 := m1.top
  have t2 := m2.top
  have M1 := Lib.hid m1
  have M2 := Lib.hid m2
  have WX := Lib.hid wx
  have WY := Lib.hid wy
  have VX := Lib.hid vx
  have VY := Lib.hid vy
  obtain ⟨E1, hE1⟩ : ∃ E : Int, E = ((A1 + 64 * nx : Nat) - (K : Int) - 1074) := ⟨_, rfl⟩
  obtain ⟨E2, hE2⟩ : ∃ E : Int, E = ((A2 + 64 * ny : Nat) - (K : Int) - 1074) := ⟨_, rfl⟩
  rw [← hE1] at x6
  rw [← hE2] at y6
  clear hx hy wx wy vx vy m1 m2
  rcases Int.lt_trichotomy E1 E2 with h | h | h
  · have hl := Lib.hid (man_lt M1.out M2.out (by omega))
    have d : decide (E1 < E2) = true := decide_eq_true h
    clear hE1 hE2 t1 t2
    go_enter Tryz.func34, Tryz.ntmps34
    go_wp2_with fail
    go_quiet (fail)
    go_wp2
    go_ret
    exact ⟨-1, rfl, by have := hl.out; omega, _, rfl⟩
  · have d : decide (E1 < E2) = false := decide_eq_false (by omega)
    have d2 : decide (E2 < E1) = false := decide_eq_false (by omega)
    have he : Hid (A1 + 64 * nx = A2 + 64 * ny) := Lib.hid (by omega)
    clear hE1 hE2 t1 t2 h
    go_enter Tryz.func34, Tryz.ntmps34
    go_wp2_with fail
    go_quiet (fail)
    rename Nat => nq1
    go_wp2_with fail
    go_quiet (fail)
    go_wp2_with fail
    obtain ⟨m0, hm0⟩ : ∃ m, m = nq1 + nq := ⟨_, rfl⟩
    rw [← hm0]
    clear hm0
    go_loopw [5, 6] (fun i j wr => ∃ t : Nat, i = .int .i64 ((nx - t : Nat) : Int) ∧ j = .int .i64 ((ny - t : Nat) : Int) ∧ Hid (topw x nx t = topw y ny t) ∧ wr = w.drewN m0) (fun i j _ => (intOf i).toNat + (intOf j).toNat)
    case atStart => exact ⟨0, rfl, rfl, Lib.hid rfl, rfl⟩
    case round =>
      obtain ⟨t, rfl, rfl, ht, rfl⟩ := hrel
      rcases Nat.lt_or_ge t nx with p | p
      · obtain ⟨i', hi⟩ : ∃ i', nx - t = i' + 1 := ⟨nx - t - 1, by omega⟩
        have lx := WX.out i' (by omega)
        rw [Nat.zero_add] at lx
        have ax : wAt x nx t = x i' := by unfold wAt; rw [if_pos p]; congr 1; omega
        have ei : ((i' + 1 : Nat) : Int) - 1 = (i' : Int) := by omega
        have si : nx - (t + 1) = i' := by omega
        have i0 : (0 : Int) < ((i' + 1 : Nat) : Int) := by omega
        rw [hi]
        rcases Nat.lt_or_ge t ny with r | r
        · obtain ⟨j', hj⟩ : ∃ j', ny - t = j' + 1 := ⟨ny - t - 1, by omega⟩
          have ly := WY.out j' (by omega)
          rw [Nat.zero_add] at ly
          have ay : wAt y ny t = y j' := by unfold wAt; rw [if_pos r]; congr 1; omega
          have ej : ((j' + 1 : Nat) : Int) - 1 = (j' : Int) := by omega
          have sj : ny - (t + 1) = j' := by omega
          have j0 : (0 : Int) < ((j' + 1 : Nat) : Int) := by omega
          rw [hj]
          have i1 : i' < nx := by omega
          have j1 : j' < ny := by omega
          rcases Nat.lt_trichotomy (x i') (y j') with q | q | q
          · skip
            have hl := Lib.hid (cmp_less M1.out M2.out he.out VX.out (topw_less ht.out (by rw [ax, ay]; exact q)))
            go_wp2
            go_ret
            exact ⟨-1, rfl, by have := hl.out; omega, _, rfl⟩
          · have d3 : ¬ ((x i') < (y j')) := by omega
            have d4 : ¬ ((y j') < (x i')) := by omega
            have hl := Lib.hid (show topw x nx (t + 1) = topw y ny (t + 1) by rw [topw_step, topw_step, ht.out, ax, ay, q])
            clear q
            go_wp2
            refine ⟨⟨t + 1, by rw [si], by rw [sj], hl, trivial⟩, ?_⟩
            simp only [intOf]
            omega
          · have d3 : ¬ ((x i') < (y j')) := by omega
            have hl := Lib.hid (cmp_less M2.out M1.out he.out.symm VY.out (topw_less ht.out.symm (by rw [ax, ay]; exact q)))
            go_wp2
            go_ret
            exact ⟨1, rfl, by have := hl.out; omega, _, rfl⟩
        · have ay : wAt y ny t = 0 := by unfold wAt; rw [if_neg (by omega)]
          have hj : ny - t = 0 := by omega
          have sj : ny - (t + 1) = 0 := by omega
          rw [hj]
          have i1 : i' < nx := by omega
          rcases Nat.lt_trichotomy (x i') 0 with q | q | q
          · omega
          · have d3 : ¬ ((x i') < 0) := by omega
            have d4 : ¬ (0 < (x i')) := by omega
            have hl := Lib.hid (show topw x nx (t + 1) = topw y ny (t + 1) by rw [topw_step, topw_step, ht.out, ax, ay, q])
            clear q
            go_wp2
            refine ⟨⟨t + 1, by rw [si], by rw [sj], hl, trivial⟩, ?_⟩
            simp only [intOf]
            omega
          · have d3 : ¬ ((x i') < 0) := by omega
            have hl := Lib.hid (cmp_less M2.out M1.out he.out.symm VY.out (topw_less ht.out.symm (by rw [ax, ay]; exact q)))
            go_wp2
            go_ret
            exact ⟨1, rfl, by have := hl.out; omega, _, rfl⟩
      · have ax : wAt x nx t = 0 := by unfold wAt; rw [if_neg (by omega)]
        have hi : nx - t = 0 := by omega
        have si : nx - (t + 1) = 0 := by omega
        rw [hi]
        rcases Nat.lt_or_ge t ny with r | r
        · obtain ⟨j', hj⟩ : ∃ j', ny - t = j' + 1 := ⟨ny - t - 1, by omega⟩
          have ly := WY.out j' (by omega)
          rw [Nat.zero_add] at ly
          have ay : wAt y ny t = y j' := by unfold wAt; rw [if_pos r]; congr 1; omega
          have ej : ((j' + 1 : Nat) : Int) - 1 = (j' : Int) := by omega
          have sj : ny - (t + 1) = j' := by omega
          have j0 : (0 : Int) < ((j' + 1 : Nat) : Int) := by omega
          rw [hj]
          have j1 : j' < ny := by omega
          rcases Nat.lt_trichotomy 0 (y j') with q | q | q
          · skip
            have hl := Lib.hid (cmp_less M1.out M2.out he.out VX.out (topw_less ht.out (by rw [ax, ay]; exact q)))
            go_wp2
            go_ret
            exact ⟨-1, rfl, by have := hl.out; omega, _, rfl⟩
          · have d3 : ¬ (0 < (y j')) := by omega
            have d4 : ¬ ((y j') < 0) := by omega
            have hl := Lib.hid (show topw x nx (t + 1) = topw y ny (t + 1) by rw [topw_step, topw_step, ht.out, ax, ay, q])
            clear q
            go_wp2
            refine ⟨⟨t + 1, by rw [si], by rw [sj], hl, trivial⟩, ?_⟩
            simp only [intOf]
            omega
          · omega
        · have hj : ny - t = 0 := by omega
          rw [hj]
          have hl := Lib.hid (cmp_same M1.out M2.out he.out ht.out p r)
          go_wp2
          go_ret
          exact ⟨0, rfl, by have := hl.out; omega, _, rfl⟩
  · have hl := Lib.hid (man_lt M2.out M1.out (by omega))
    have d : decide (E1 < E2) = false := decide_eq_false (by omega)
    have d2 : decide (E2 < E1) = true := decide_eq_true h
    clear hE1 hE2 t1 t2
    go_enter Tryz.func34, Tryz.ntmps34
    go_wp2_with fail
    go_quiet (fail)
    go_wp2_with fail
    go_quiet (fail)
    go_wp2
    go_ret
    exact ⟨1, rfl, by have := hl.out; omega, _, World.drewN_drewN _ _ _⟩
end Go.Proofs.YtmkdcnemocdefaaGreatFmt
