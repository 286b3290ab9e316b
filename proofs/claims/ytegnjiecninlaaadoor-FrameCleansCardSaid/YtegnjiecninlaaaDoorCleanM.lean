/- Cleaned pictures: the walk of (frame.Set).Clean where all pictures are right. -/
import Derived.Test.YtegnjiecninlaaaDoorCleanO
namespace Go.Proofs.YtegnjiecninlaaaDoor
open Go.RowKit

/-- What holds all through the return of a fault: the sentinel and the fresh cells. -/
def Late3 (w : World) (g : Nat) (v : Value) (w' : World) : Prop :=
  g < w.heap.size ∧ w'.cell? ⟨g, 0, none⟩ = some v ∧ w'.cell? ⟨w.heap.size + 2, 0, none⟩ = some (.int .i64 0) ∧ w'.cell? ⟨w.heap.size + 2, 1, none⟩ = some (.int .i64 0) ∧ w'.cell? ⟨w.heap.size + 2, 2, none⟩ = some (.slice none 0 0) ∧ w'.frozen? ⟨w.heap.size + 2, 0, none⟩ = false ∧ w'.frozen? ⟨w.heap.size + 2, 1, none⟩ = false ∧ w'.frozen? ⟨w.heap.size + 2, 2, none⟩ = false ∧ Below w.heap.size w w'
theorem Late3.drew {w : World} {g : Nat} {v : Value} {w' : World} (h : Late3 w g v w') : Late3 w g v w'.drew :=
  ⟨h.1, h.2.1, h.2.2.1, h.2.2.2.1, h.2.2.2.2.1, h.2.2.2.2.2.1, h.2.2.2.2.2.2.1, h.2.2.2.2.2.2.2.1, h.2.2.2.2.2.2.2.2.drew⟩
theorem Late3.store {w : World} {g : Nat} {v : Value} {w' : World} (h : Late3 w g v w') : Late3 w g v (((w'.setCell ⟨w.heap.size + 2, 0, none⟩ (.int .i64 0)).setCell ⟨w.heap.size + 2, 1, none⟩ (.int .i64 0)).setCell ⟨w.heap.size + 2, 2, none⟩ (.slice none 0 0)) := by
  obtain ⟨h1, h2, h3, h4, h5, h6, h7, h8, h9⟩ := h
  have e1 : (w'.setCell ⟨w.heap.size + 2, 0, none⟩ (.int .i64 0)).cell? ⟨w.heap.size + 2, 0, none⟩ = some (.int .i64 0) := World.cell?_setCell_same _ _ _ h3
  have e2 : (w'.setCell ⟨w.heap.size + 2, 0, none⟩ (.int .i64 0)).cell? ⟨w.heap.size + 2, 1, none⟩ = some (.int .i64 0) := by rw [World.cell?_setCell_other _ _ _ _ (by simp)]; exact h4
  have e3 : ((w'.setCell ⟨w.heap.size + 2, 0, none⟩ (.int .i64 0)).setCell ⟨w.heap.size + 2, 1, none⟩ (.int .i64 0)).cell? ⟨w.heap.size + 2, 2, none⟩ = some (.slice none 0 0) := by rw [World.cell?_setCell_other _ _ _ _ (by simp), World.cell?_setCell_other _ _ _ _ (by simp)]; exact h5
  refine ⟨h1, ?_, ?_, ?_, World.cell?_setCell_same _ _ _ e3, ?_, ?_, ?_, ((h9.setCell (show w.heap.size ≤ w.heap.size + 2 by omega) _).setCell (show w.heap.size ≤ w.heap.size + 2 by omega) _).setCell (show w.heap.size ≤ w.heap.size + 2 by omega) _⟩
  · rw [World.cell?_setCell_other _ _ _ _ (by intro e; injection e; omega), World.cell?_setCell_other _ _ _ _ (by intro e; injection e; omega), World.cell?_setCell_other _ _ _ _ (by intro e; injection e; omega)]; exact h2
  · rw [World.cell?_setCell_other _ _ _ _ (by simp), World.cell?_setCell_other _ _ _ _ (by simp)]; exact e1
  · rw [World.cell?_setCell_other _ _ _ _ (by simp)]; exact World.cell?_setCell_same _ _ _ e2
  · rw [World.frozen?_setCell, World.frozen?_setCell, World.frozen?_setCell]; exact h6
  · rw [World.frozen?_setCell, World.frozen?_setCell, World.frozen?_setCell]; exact h7
  · rw [World.frozen?_setCell, World.frozen?_setCell, World.frozen?_setCell]; exact h8

/-- A row that lies in a block from m on. -/
def Low (m : Nat) (a : Option Addr) : Prop := ∀ x, a = some x → m ≤ x.block
theorem Low.mono {m k : Nat} {a : Option Addr} (h : Low m a) (hk : k ≤ m) : Low k a := fun x e => Nat.le_trans hk (h x e)
theorem Grows.row2 {b : Nat} {v : Value} {L : List Int} {wr : World} (h : Grows b v L wr) : ∃ a cap, v = .slice a L.length cap ∧ IRow wr a L.length (fun j => L.getD j 0) ∧ Low b a := by
  obtain ⟨a, cap, e, hr⟩ := h.row
  refine ⟨a, cap, e, hr, fun x ex => ?_⟩
  subst ex
  exact h.low x.block (by rw [e]; rfl)

set_option maxRecDepth 10000 in
set_option maxHeartbeats 0 in
theorem clean_main (ad : Nat → Addr) (W0 H0 W1 H1 W2 H2 full : Int) (f0 f1 f2 : Nat → Int) (a0 a1 a2 : Option Addr) (n0 n1 n2 c0 c1 c2 : Nat) (w : World) (he : Errs w ad [1, 4]) (h0 : IRow w a0 n0 f0) (h1 : IRow w a1 n1 f1) (h2 : IRow w a2 n2 f2) (g0 : picG W0 H0 n0 f0) (g1 : picG W1 H1 n1 f1) (g2 : picG W2 H2 n2 f2) :
    Calls Tryd.prog 27 #[.agg #[.int .i64 W1, .int .i64 H1, .slice a1 n1 c1, .int .i64 W2, .int .i64 H2, .slice a2 n2 c2, .int .i64 full], .agg #[.int .i64 W0, .int .i64 H0, .slice a0 n0 c0]] w fun e w' => (fits W0 H0 W1 H1 W2 H2 full (cntP f2 n2) ∧ ∃ a b ca cb, e = .returned (.tuple #[.agg #[.int .i64 W0, .int .i64 H0, .slice a n0 ca], .slice b (FL f0 full n0).length cb, .nilIface]) ∧ IRow w' a n0 (fun j => (VL f0 f1 f2 (sumP f2 n2 / cntP f2 n2) n0).getD j 0) ∧ IRow w' b (FL f0 full n0).length (fun j => (FL f0 full n0).getD j 0) ∧ Below w.heap.size w w' ∧ Low w.heap.size a ∧ Low w.heap.size b) ∨
      (¬ fits W0 H0 W1 H1 W2 H2 full (cntP f2 n2) ∧ e = .returned (.tuple #[.agg #[.int .i64 0, .int .i64 0, .slice none 0 0], .slice none 0 0, errV ad 4]) ∧ Below w.heap.size w w') := by
  unfold errV
  have HE := Lib.hid he
  have HI0 := Lib.hid h0
  have HI1 := Lib.hid h1
  have HI2 := Lib.hid h2
  have HV0 := Lib.hid (fun W (hE : Errs W ad [1, 4]) (hI : IRow W a0 n0 f0) => validP_ok ad W0 H0 f0 a0 n0 c0 W hE hI g0)
  have HV1 := Lib.hid (fun W (hE : Errs W ad [1, 4]) (hI : IRow W a1 n1 f1) => validP_ok ad W1 H1 f1 a1 n1 c1 W hE hI g1)
  have HV2 := Lib.hid (fun W (hE : Errs W ad [1, 4]) (hI : IRow W a2 n2 f2) => validP_ok ad W2 H2 f2 a2 n2 c2 W hE hI g2)
  clear he h0 h1 h2
  go_enter Tryd.func27, Tryd.ntmps27
  go_wp2
  refine wp_loop_rounds 4 ?_
  rw [rounds_succ]
  go_wp2_with fail
  refine (HV0.out _ (HE.out.below (by go_grown)) (HI0.out.below (by go_grown))).mono ?_; rintro e w1 ⟨rfl, hb1⟩
  have hL := clean_laid w [.int .i64 W1, .int .i64 H1, .slice a1 n1 c1, .int .i64 W2, .int .i64 H2, .slice a2 n2 c2, .int .i64 full] [.int .i64 W0, .int .i64 H0, .slice a0 n0 c0] [.int .i64 0, .int .i64 0, .slice none 0 0] [.int .i64 W0, .int .i64 H0, .slice a0 n0 c0, .int .i64 W1, .int .i64 H1, .slice a1 n1 c1, .int .i64 W2, .int .i64 H2, .slice a2 n2 c2] _ _ _ rfl 51 48 48 48
  have hC1 := (hL.1.alloc _).below hb1
  have hN1 := (hL.2.old (by simp <;> omega) _).below hb1 (by simp <;> omega)
  clear hL hb1
  have e10 : w1.cell? ⟨w.heap.size + 3, 3, none⟩ = some (.int .i64 W1) := hN1 3 _ rfl
  have e11 : w1.cell? ⟨w.heap.size + 3, 4, none⟩ = some (.int .i64 H1) := hN1 4 _ rfl
  have e12 : w1.cell? ⟨w.heap.size + 3, 5, none⟩ = some (.slice a1 n1 c1) := hN1 5 _ rfl
  have HC1 := Lib.hid hC1
  have HN1 := Lib.hid hN1
  have hz1 := hC1.size
  clear hC1 hN1
  go_wp2
  rw [rounds_succ]
  go_wp2_with fail
  refine (HV1.out _ (HE.out.below (HC1.out.alloc _).bel) (HI1.out.below (HC1.out.alloc _).bel)).mono ?_; rintro e w2 ⟨rfl, hb2⟩
  have hC2 := (HC1.out.alloc _).below hb2
  have hN2 := (HN1.out.old (by omega) _).below hb2 (by simp only [World.size_alloc]; omega)
  clear hb2 e10 e11 e12 HC1 HN1 hz1
  have e20 : w2.cell? ⟨w.heap.size + 3, 6, none⟩ = some (.int .i64 W2) := hN2 6 _ rfl
  have e21 : w2.cell? ⟨w.heap.size + 3, 7, none⟩ = some (.int .i64 H2) := hN2 7 _ rfl
  have e22 : w2.cell? ⟨w.heap.size + 3, 8, none⟩ = some (.slice a2 n2 c2) := hN2 8 _ rfl
  have HC2 := Lib.hid hC2
  have HN2 := Lib.hid hN2
  have hz2 := hC2.size
  clear hC2 hN2
  go_wp2
  rw [rounds_succ]
  go_wp2_with fail
  refine (HV2.out _ (HE.out.below (HC2.out.alloc _).bel) (HI2.out.below (HC2.out.alloc _).bel)).mono ?_; rintro e w3 ⟨rfl, hb3⟩
  have hC3 := (HC2.out.alloc _).below hb3
  have hN3 := (HN2.out.old (by omega) _).below hb3 (by simp only [World.size_alloc]; omega)
  clear hb3 e20 e21 e22 HC2 HN2 hz2
  have HC := Lib.hid hC3
  have q5 := hC3.set' 5 _ rfl
  have hR2 := HI2.out.below hC3.bel
  have HA2 := Lib.hid (fun j (hj : j < n2) => hR2.at hj)
  have hn2 : n2 ≤ 65536 := by
    obtain ⟨x1, x2, y1, y2, hw, _⟩ := g2
    have := Int.mul_le_mul x2 y2 (by omega) (by decide)
    omega
  have HG2 := Lib.hid g2.2.2.2.2.2
  have hsb := sumP_bd g2.2.2.2.2.2
  have HSB := Lib.hid hsb
  clear hC3 hN3 hR2 hsb
  go_wp2
  rw [rounds_succ]
  go_wp2
  go_loopw [10, 11, 41] (fun s c i wr => ∃ k : Nat, k ≤ n2 ∧ i = .int .i64 k ∧ s = .int .i64 (sumP f2 k) ∧ c = .int .i64 (cntP f2 k : Nat) ∧ w3 = wr) (fun _ _ i _ => n2 - (intOf i).toNat)
  case atStart => exact ⟨0, Nat.zero_le _, rfl, rfl, rfl, rfl⟩
  case round =>
    obtain ⟨k, hk, rfl, rfl, rfl, rfl⟩ := hrel
    have hsb := HSB.out k hk
    by_cases hkn : k < n2
    · obtain ⟨b, o, rfl, _, c1⟩ := HA2.out k hkn
      have hx := HG2.out k hkn
      by_cases hp : 0 < f2 k
      · have E1 := Lib.hid (show sumP f2 (k + 1) = sumP f2 k + f2 k from if_pos hp)
        have E2 := Lib.hid (show cntP f2 (k + 1) = cntP f2 k + 1 from if_pos hp)
        go_wp2
        go_roundw
        case rel => exact ⟨k + 1, by omega, by go_num, by rw [E1.out], by rw [E2.out]; go_num, by simp⟩
        case measure => simp [intOf]; omega
      · have E1 := Lib.hid (show sumP f2 (k + 1) = sumP f2 k from if_neg hp)
        have E2 := Lib.hid (show cntP f2 (k + 1) = cntP f2 k from if_neg hp)
        go_wp2
        go_roundw
        case rel => exact ⟨k + 1, by omega, by go_num, by rw [E1.out], by rw [E2.out], by simp⟩
        case measure => simp [intOf]; omega
    · obtain rfl : n2 = k := by omega
      clear q5
      by_cases A1 : W0 = W1 ∧ H0 = H1
      · have b1 : (W0 == W1 && H0 == H1) = true := by simp [A1.1, A1.2]
        have HA1 := Lib.hid A1
        clear A1
        have m10 := HC.out.pic 0 _ rfl
        have m11 := HC.out.pic 1 _ rfl
        have m12 := HC.out.pic 2 _ rfl
        have m13 := HC.out.set' 0 _ rfl
        have m14 := HC.out.set' 1 _ rfl
        have m15 := HC.out.set' 2 _ rfl
        go_wp2_with fail
        refine (alike_any W0 H0 W1 H1 a0 a1 n0 n1 c0 c1 _).mono ?_; rintro e w4 ⟨rfl, hb⟩
        rw [b1]
        have HC := Lib.hid (HC.out.below hb)
        clear hb m10 m11 m12 m13 m14 m15
        by_cases A2 : W0 = W2 ∧ H0 = H2
        · have b2 : (W0 == W2 && H0 == H2) = true := by simp [A2.1, A2.2]
          have HA2' := Lib.hid A2
          clear A2
          have m20 := HC.out.pic 0 _ rfl
          have m21 := HC.out.pic 1 _ rfl
          have m22 := HC.out.pic 2 _ rfl
          have m23 := HC.out.set' 3 _ rfl
          have m24 := HC.out.set' 4 _ rfl
          have m25 := HC.out.set' 5 _ rfl
          go_wp2_with fail
          refine (alike_any W0 H0 W2 H2 a0 a2 n0 n2 c0 c2 _).mono ?_; rintro e w5 ⟨rfl, hb⟩
          rw [b2]
          have HC := Lib.hid (HC.out.below hb)
          clear hb m20 m21 m22 m23 m24 m25
          have m6 := HC.out.set' 6 _ rfl
          by_cases A3 : full < 1
          · have HNO : Hid (¬ fits W0 H0 W1 H1 W2 H2 full (cntP f2 n2)) := Lib.hid (fun h => by have := h.2.2.2.2.1; omega)
            have hS : Late3 w 2 (.iface 202 (.pointer (some (ad 4)))) w5 := ⟨cell_lt (HE.out 4 (by decide)), (HE.out.below HC.out.bel) 4 (by decide), HC.out.c0, HC.out.c1, HC.out.c2, HC.out.f0, HC.out.f1, HC.out.f2, HC.out.bel⟩
            have HS := Lib.hid hS
            have g2 := hS.2.1
            have q0 := hS.2.2.1
            have q1 := hS.2.2.2.1
            have q2 := hS.2.2.2.2.1
            have z0 := hS.2.2.2.2.2.1
            have z1 := hS.2.2.2.2.2.2.1
            have z2 := hS.2.2.2.2.2.2.2.1
            clear hS
            go_wp2
            go_region_held3 (fun w' => w'.cell? ⟨2, 0, none⟩ = some (.iface 202 (.pointer (some (ad 4)))) ∧ w'.cell? ⟨w.heap.size + 2, 0, none⟩ = some (.int .i64 0) ∧ w'.cell? ⟨w.heap.size + 2, 1, none⟩ = some (.int .i64 0) ∧ w'.cell? ⟨w.heap.size + 2, 2, none⟩ = some (.slice none 0 0) ∧ w'.frozen? ⟨w.heap.size + 2, 0, none⟩ = false ∧ w'.frozen? ⟨w.heap.size + 2, 1, none⟩ = false ∧ w'.frozen? ⟨w.heap.size + 2, 2, none⟩ = false ∧ Below w.heap.size w w')
              (first | (exact HS.out.2) | (exact HS.out.drew.2) | (exact HS.out.store.2) | (exact HS.out.drew.store.2) | (exact HS.out.store.drew.2) | assumption) (fail)
            go_wp2
            refine bodyPost_ret (v := .tuple #[.agg #[.int .i64 0, .int .i64 0, .slice none 0 0], .slice none 0 0, .iface 202 (.pointer (some (ad 4)))]) ?_ rfl (Or.inr ⟨HNO.out, rfl, HS.out.store.drew.2.2.2.2.2.2.2.2⟩)
            simp [results, Tryd.results27, go_sem, q0, q1, q2]
          by_cases A4 : 65535 < full
          · have HNO : Hid (¬ fits W0 H0 W1 H1 W2 H2 full (cntP f2 n2)) := Lib.hid (fun h => by have := h.2.2.2.2.2.1; omega)
            have hS : Late3 w 2 (.iface 202 (.pointer (some (ad 4)))) w5 := ⟨cell_lt (HE.out 4 (by decide)), (HE.out.below HC.out.bel) 4 (by decide), HC.out.c0, HC.out.c1, HC.out.c2, HC.out.f0, HC.out.f1, HC.out.f2, HC.out.bel⟩
            have HS := Lib.hid hS
            have g2 := hS.2.1
            have q0 := hS.2.2.1
            have q1 := hS.2.2.2.1
            have q2 := hS.2.2.2.2.1
            have z0 := hS.2.2.2.2.2.1
            have z1 := hS.2.2.2.2.2.2.1
            have z2 := hS.2.2.2.2.2.2.2.1
            clear hS
            go_wp2
            go_region_held3 (fun w' => w'.cell? ⟨2, 0, none⟩ = some (.iface 202 (.pointer (some (ad 4)))) ∧ w'.cell? ⟨w.heap.size + 2, 0, none⟩ = some (.int .i64 0) ∧ w'.cell? ⟨w.heap.size + 2, 1, none⟩ = some (.int .i64 0) ∧ w'.cell? ⟨w.heap.size + 2, 2, none⟩ = some (.slice none 0 0) ∧ w'.frozen? ⟨w.heap.size + 2, 0, none⟩ = false ∧ w'.frozen? ⟨w.heap.size + 2, 1, none⟩ = false ∧ w'.frozen? ⟨w.heap.size + 2, 2, none⟩ = false ∧ Below w.heap.size w w')
              (first | (exact HS.out.2) | (exact HS.out.drew.2) | (exact HS.out.store.2) | (exact HS.out.drew.store.2) | (exact HS.out.store.drew.2) | assumption) (fail)
            go_wp2
            refine bodyPost_ret (v := .tuple #[.agg #[.int .i64 0, .int .i64 0, .slice none 0 0], .slice none 0 0, .iface 202 (.pointer (some (ad 4)))]) ?_ rfl (Or.inr ⟨HNO.out, rfl, HS.out.store.drew.2.2.2.2.2.2.2.2⟩)
            simp [results, Tryd.results27, go_sem, q0, q1, q2]
          by_cases A5 : cntP f2 n2 = 0
          · have HNO : Hid (¬ fits W0 H0 W1 H1 W2 H2 full (cntP f2 n2)) := Lib.hid (fun h => by have := h.2.2.2.2.2.2; omega)
            have b5 : (((cntP f2 n2 : Nat) : Int) == 0) = true := by simp [A5]
            have hS : Late3 w 2 (.iface 202 (.pointer (some (ad 4)))) w5 := ⟨cell_lt (HE.out 4 (by decide)), (HE.out.below HC.out.bel) 4 (by decide), HC.out.c0, HC.out.c1, HC.out.c2, HC.out.f0, HC.out.f1, HC.out.f2, HC.out.bel⟩
            have HS := Lib.hid hS
            have g2 := hS.2.1
            have q0 := hS.2.2.1
            have q1 := hS.2.2.2.1
            have q2 := hS.2.2.2.2.1
            have z0 := hS.2.2.2.2.2.1
            have z1 := hS.2.2.2.2.2.2.1
            have z2 := hS.2.2.2.2.2.2.2.1
            clear hS
            go_wp2
            go_region_held3 (fun w' => w'.cell? ⟨2, 0, none⟩ = some (.iface 202 (.pointer (some (ad 4)))) ∧ w'.cell? ⟨w.heap.size + 2, 0, none⟩ = some (.int .i64 0) ∧ w'.cell? ⟨w.heap.size + 2, 1, none⟩ = some (.int .i64 0) ∧ w'.cell? ⟨w.heap.size + 2, 2, none⟩ = some (.slice none 0 0) ∧ w'.frozen? ⟨w.heap.size + 2, 0, none⟩ = false ∧ w'.frozen? ⟨w.heap.size + 2, 1, none⟩ = false ∧ w'.frozen? ⟨w.heap.size + 2, 2, none⟩ = false ∧ Below w.heap.size w w')
              (first | (exact HS.out.2) | (exact HS.out.drew.2) | (exact HS.out.store.2) | (exact HS.out.drew.store.2) | (exact HS.out.store.drew.2) | assumption) (fail)
            go_wp2
            refine bodyPost_ret (v := .tuple #[.agg #[.int .i64 0, .int .i64 0, .slice none 0 0], .slice none 0 0, .iface 202 (.pointer (some (ad 4)))]) ?_ rfl (Or.inr ⟨HNO.out, rfl, HS.out.store.drew.2.2.2.2.2.2.2.2⟩)
            simp [results, Tryd.results27, go_sem, q0, q1, q2]
          · have HFIT : Hid (fits W0 H0 W1 H1 W2 H2 full (cntP f2 n2)) := Lib.hid ⟨HA1.out.1, HA1.out.2, HA2'.out.1, HA2'.out.2, by omega, by omega, by omega⟩
            have hn1 : n0 = n1 := by
              have e0 := g0.2.2.2.2.1
              have e1 := g1.2.2.2.2.1
              rw [← HA1.out.1, ← HA1.out.2] at e1
              omega
            have hn2' : n0 = n2 := by
              have e0 := g0.2.2.2.2.1
              have e1 := g2.2.2.2.2.1
              rw [← HA2'.out.1, ← HA2'.out.2] at e1
              omega
            have HN1 := Lib.hid hn1
            have HN2 := Lib.hid hn2'
            have hcnt : 0 < cntP f2 n2 := by omega
            have b5 : (((cntP f2 n2 : Nat) : Int) == 0) = false := by simp; omega
            have hsn := HSB.out n2 (Nat.le_refl _)
            have hmb := mean_bd hcnt hsn.2.1 hsn.2.2
            have hn0 : n0 ≤ 65536 := by omega
            have G0 := Lib.hid g0.2.2.2.2.2
            have G1 := Lib.hid g1.2.2.2.2.2
            obtain ⟨i0, ji, jz0, jz1, jz2⟩ := info_parts info_int'
            have q0 := HC.out.c0
            have q1 := HC.out.c1
            have q2 := HC.out.c2
            have z0 := HC.out.f0
            have z1 := HC.out.f1
            have z2 := HC.out.f2
            have p0 := HC.out.pic 0 _ rfl
            have p1 := HC.out.pic 1 _ rfl
            have p2 := HC.out.pic 2 _ rfl
            have HC7 := Lib.hid (HC.out.store3 (.int .i64 W0) (.int .i64 H0) (.slice none 0 0))
            clear hn1 hn2' g0 g1 g2 A5 HC
            go_wp2
            clear q0 q1 q2 z0 z1 z2 p0 p1 p2 m6
            go_loopw [5, 92] (fun vf i wr => ∃ (k : Nat) (vc : Value), k ≤ n0 ∧ i = .int .i64 k ∧ Hid (CW w [.int .i64 W1, .int .i64 H1, .slice a1 n1 c1, .int .i64 W2, .int .i64 H2, .slice a2 n2 c2, .int .i64 full] [.int .i64 W0, .int .i64 H0, .slice a0 n0 c0] (.int .i64 W0) (.int .i64 H0) vc wr) ∧ Hid (Grows (w.heap.size + 4) vc (VL f0 f1 f2 (sumP f2 n2 / (cntP f2 n2 : Int)) k) wr) ∧ Hid (Grows (w.heap.size + 4) vf (FL f0 full k) wr) ∧ Hid (Parted vc vf)) (fun _ i _ => n0 - (intOf i).toNat)
            case atStart => exact ⟨0, .slice none 0 0, Nat.zero_le _, rfl, HC7, Grows.nil _ _, Grows.nil _ _, Or.inl rfl⟩
            case round =>
              clear HC7
              obtain ⟨k, vc, hk, rfl, hC, hV, hF, hP⟩ := hrel
              by_cases hkn : k < n0
              · have hdk : decide ((k : Int) < n0) = true := by simp; omega
                obtain ⟨ba, oa, rfl, _, e0⟩ := (HI0.out.below hC.out.bel).at hkn
                obtain ⟨bb, ob, rfl, _, e1⟩ := (HI1.out.below hC.out.bel).at (show k < n1 by have := HN1.out; omega)
                obtain ⟨bc, oc, rfl, _, e2⟩ := (HI2.out.below hC.out.bel).at (show k < n2 by have := HN2.out; omega)
                have hk1 : k < n1 := by have := HN1.out; omega
                have hk2 : k < n2 := by have := HN2.out; omega
                have d5 := hC.out.set' 5 _ rfl
                have d2 := hC.out.set' 2 _ rfl
                have d6 := hC.out.set' 6 _ rfl
                have q2 := hC.out.c2
                have x0 := G0.out k hkn
                have x1 := G1.out k hk1
                have x2 := HG2.out k hk2
                have EV := Lib.hid (show VL f0 f1 f2 (sumP f2 n2 / (cntP f2 n2 : Int)) (k + 1) = VL f0 f1 f2 (sumP f2 n2 / (cntP f2 n2 : Int)) k ++ [vF (f0 k) (f1 k) (f2 k) (sumP f2 n2 / (cntP f2 n2 : Int))] from rfl)
                have EF1 := Lib.hid (fun h => FL_yes (f0 := f0) (full := full) (k := k) h)
                have EF2 := Lib.hid (fun h => FL_no (f0 := f0) (full := full) (k := k) h)
                have hlV : (VL f0 f1 f2 (sumP f2 n2 / (cntP f2 n2 : Int)) k).length ≤ 65536 := by rw [VL_len]; omega
                have hlF : (FL f0 full k).length ≤ 65536 := by have := FL_len f0 full k; omega
                have HCV := Lib.hid (one_new wr)
                have hsz := hC.out.size
                generalize VL f0 f1 f2 (sumP f2 n2 / (cntP f2 n2 : Int)) k = LV at *
                generalize FL f0 full k = LF at *
                generalize f0 k = kk at *
                generalize f1 k = dd at *
                generalize f2 k = ff at *
                by_cases p1 : 0 < ff
                · by_cases p2 : 0 < kk - dd
                  · have hlb := light_bd p2 (by omega) hmb.1 hmb.2
                    by_cases p3 : ((2 * (kk - dd) * (sumP f2 n2 / (cntP f2 n2 : Int)) + ff) / (2 * ff)) ≤ 65535
                    · have EVV : Hid (vF kk dd ff (sumP f2 n2 / (cntP f2 n2 : Int)) = ((2 * (kk - dd) * (sumP f2 n2 / (cntP f2 n2 : Int)) + ff) / (2 * ff))) := Lib.hid (vF_in p1 p2 p3)
                      have HOS := Lib.hid (fun o => World.ownsRow.alloc hV.out o)
                      have HK3 : Hid (LV.length + 1 ≤ maxLen) := Lib.hid (by unfold maxLen; omega)
                      have HK4 : Hid ((LV.length + 1) * 8 ≤ 140737488355328) := Lib.hid (by omega)
                      have HK5 : Hid (w.heap.size + 4 ≤ (wr.alloc (.cells #[.int .i64 ((2 * (kk - dd) * (sumP f2 n2 / (cntP f2 n2 : Int)) + ff) / (2 * ff))] 3)).heap.size) := Lib.hid (by simp only [World.size_alloc]; omega)
                      go_wp2_with (first
                        | (at_builtin; refine wpList_append_own_at _ rfl (.tmp 124) (.tmp 126) 30 rfl (w.heap.size + 4) 3 i0 (.int .i64 0) 1 8 Tryd.underlying30 ji jz0 jz1 jz2 rfl (by decide) vc LV.length (LV.map (Value.int .i64)) rfl (HOS.out _) ⟨wr.heap.size, 0, none⟩ 1 1 [.int .i64 ((2 * (kk - dd) * (sumP f2 n2 / (cntP f2 n2 : Int)) + ff) / (2 * ff))] rfl rfl (HCV.out _ _) (one_cell _) HK3.out HK4.out HK5.out ?_)
                        | fail)
                      intro vc6 w6 hown hgrow _ hat
                      obtain ⟨hV6, hF6, hP6⟩ := hF.out.step hP.out hown hgrow hat
                      obtain ⟨av, lv, cv, rfl⟩ : ∃ a l c, vc6 = .slice a l c := by obtain ⟨a, c, e, _⟩ := hV6.row; exact ⟨a, _, c, e⟩
                      have hC6 := (hC.out.alloc _).grown hgrow (fun k hk => hV.out.low k hk)
                      have q2 := hC6.c2
                      have z2 := hC6.f2
                      have d6' := hC6.set' 6 _ rfl
                      have hs6 := hC6.size
                      have HC6 := Lib.hid (hC6.store2 (.slice av lv cv))
                      have HV6 := Lib.hid (hV6.store (a := ⟨w.heap.size + 2, 2, none⟩) (show w.heap.size + 2 < w.heap.size + 4 by omega) (.slice av lv cv))
                      have HF6 := Lib.hid (hF6.store (a := ⟨w.heap.size + 2, 2, none⟩) (show w.heap.size + 2 < w.heap.size + 4 by omega) (.slice av lv cv))
                      have HP6 := Lib.hid hP6
                      clear hown hgrow hat hV6 hF6 hP6 hC6 hC hV hF hP HOS HK3 HK4 HK5 HCV
                      by_cases hfull : full ≤ kk
                      · have EFF := Lib.hid (EF1.out (by omega))
                        have HOS := Lib.hid (fun o => World.ownsRow.alloc HF6.out o)
                        have HK1 : Hid (∀ j u, [Value.int .i64 (k : Int)][j]? = some u → ((w6.setCell ⟨w.heap.size + 2, 2, none⟩ (.slice av lv cv)).alloc (.cells #[.int .i64 (k : Int)] 3)).cell? ((⟨w6.heap.size, 0, none⟩ : Addr).add j) = some u) := Lib.hid (by
                          have := one_new (w6.setCell ⟨w.heap.size + 2, 2, none⟩ (.slice av lv cv)) (k : Int) 3
                          rwa [show (w6.setCell ⟨w.heap.size + 2, 2, none⟩ (.slice av lv cv)).heap.size = w6.heap.size by simp] at this)
                        have HK3 : Hid (LF.length + 1 ≤ maxLen) := Lib.hid (by unfold maxLen; omega)
                        have HK4 : Hid ((LF.length + 1) * 8 ≤ 140737488355328) := Lib.hid (by omega)
                        have HK5 : Hid (w.heap.size + 4 ≤ ((w6.setCell ⟨w.heap.size + 2, 2, none⟩ (.slice av lv cv)).alloc (.cells #[.int .i64 (k : Int)] 3)).heap.size) := Lib.hid (by simp; omega)
                        go_wp2_with (first
                          | (at_builtin; refine wpList_append_own_at _ rfl (.tmp 133) (.tmp 135) 30 rfl (w.heap.size + 4) 3 i0 (.int .i64 0) 1 8 Tryd.underlying30 ji jz0 jz1 jz2 rfl (by decide) u5 LF.length (LF.map (Value.int .i64)) rfl (HOS.out _) ⟨w6.heap.size, 0, none⟩ 1 1 [.int .i64 (k : Int)] rfl rfl HK1.out (one_cell _) HK3.out HK4.out HK5.out ?_)
                          | fail)
                        intro vf' w7 hown hgrow _ hat
                        obtain ⟨hF7, hV7, hP7⟩ := HV6.out.step HP6.out.symm hown hgrow (by simpa using hat)
                        have HC7 := Lib.hid ((HC6.out.alloc _).grown hgrow (fun k hk => HF6.out.low k hk))
                        have HF7 := Lib.hid hF7
                        have HV7 := Lib.hid hV7
                        have HP7 := Lib.hid hP7.symm
                        clear hown hgrow hat hF7 hV7 hP7 HC6 HV6 HF6 HP6 HOS HK1 HK3 HK4 HK5 d6' q2 z2
                        go_wp2
                        go_roundw
                        case rel => exact ⟨k + 1, (.slice av lv cv), by omega, by go_num, HC7, by rw [EV.out, EVV.out]; exact HV7, by rw [EFF.out]; exact HF7, HP7⟩
                        case measure => simp [intOf]; omega
                      · have EFF := Lib.hid (EF2.out (by omega))
                        go_wp2
                        go_roundw
                        case rel => exact ⟨k + 1, (.slice av lv cv), by omega, by go_num, HC6, by rw [EV.out, EVV.out]; exact HV6, by rw [EFF.out]; exact HF6, HP6⟩
                        case measure => simp [intOf]; omega
                    · have EVV : Hid (vF kk dd ff (sumP f2 n2 / (cntP f2 n2 : Int)) = 65535) := Lib.hid (vF_top p1 p2 p3)
                      have p4 := Int.not_le.1 p3
                      have HOS := Lib.hid (fun o => World.ownsRow.alloc hV.out o)
                      have HK3 : Hid (LV.length + 1 ≤ maxLen) := Lib.hid (by unfold maxLen; omega)
                      have HK4 : Hid ((LV.length + 1) * 8 ≤ 140737488355328) := Lib.hid (by omega)
                      have HK5 : Hid (w.heap.size + 4 ≤ (wr.alloc (.cells #[.int .i64 65535] 3)).heap.size) := Lib.hid (by simp only [World.size_alloc]; omega)
                      go_wp2_with (first
                        | (at_builtin; refine wpList_append_own_at _ rfl (.tmp 124) (.tmp 126) 30 rfl (w.heap.size + 4) 3 i0 (.int .i64 0) 1 8 Tryd.underlying30 ji jz0 jz1 jz2 rfl (by decide) vc LV.length (LV.map (Value.int .i64)) rfl (HOS.out _) ⟨wr.heap.size, 0, none⟩ 1 1 [.int .i64 65535] rfl rfl (HCV.out _ _) (one_cell _) HK3.out HK4.out HK5.out ?_)
                        | fail)
                      intro vc6 w6 hown hgrow _ hat
                      obtain ⟨hV6, hF6, hP6⟩ := hF.out.step hP.out hown hgrow hat
                      obtain ⟨av, lv, cv, rfl⟩ : ∃ a l c, vc6 = .slice a l c := by obtain ⟨a, c, e, _⟩ := hV6.row; exact ⟨a, _, c, e⟩
                      have hC6 := (hC.out.alloc _).grown hgrow (fun k hk => hV.out.low k hk)
                      have q2 := hC6.c2
                      have z2 := hC6.f2
                      have d6' := hC6.set' 6 _ rfl
                      have hs6 := hC6.size
                      have HC6 := Lib.hid (hC6.store2 (.slice av lv cv))
                      have HV6 := Lib.hid (hV6.store (a := ⟨w.heap.size + 2, 2, none⟩) (show w.heap.size + 2 < w.heap.size + 4 by omega) (.slice av lv cv))
                      have HF6 := Lib.hid (hF6.store (a := ⟨w.heap.size + 2, 2, none⟩) (show w.heap.size + 2 < w.heap.size + 4 by omega) (.slice av lv cv))
                      have HP6 := Lib.hid hP6
                      clear hown hgrow hat hV6 hF6 hP6 hC6 hC hV hF hP HOS HK3 HK4 HK5 HCV
                      by_cases hfull : full ≤ kk
                      · have EFF := Lib.hid (EF1.out (by omega))
                        have HOS := Lib.hid (fun o => World.ownsRow.alloc HF6.out o)
                        have HK1 : Hid (∀ j u, [Value.int .i64 (k : Int)][j]? = some u → ((w6.setCell ⟨w.heap.size + 2, 2, none⟩ (.slice av lv cv)).alloc (.cells #[.int .i64 (k : Int)] 3)).cell? ((⟨w6.heap.size, 0, none⟩ : Addr).add j) = some u) := Lib.hid (by
                          have := one_new (w6.setCell ⟨w.heap.size + 2, 2, none⟩ (.slice av lv cv)) (k : Int) 3
                          rwa [show (w6.setCell ⟨w.heap.size + 2, 2, none⟩ (.slice av lv cv)).heap.size = w6.heap.size by simp] at this)
                        have HK3 : Hid (LF.length + 1 ≤ maxLen) := Lib.hid (by unfold maxLen; omega)
                        have HK4 : Hid ((LF.length + 1) * 8 ≤ 140737488355328) := Lib.hid (by omega)
                        have HK5 : Hid (w.heap.size + 4 ≤ ((w6.setCell ⟨w.heap.size + 2, 2, none⟩ (.slice av lv cv)).alloc (.cells #[.int .i64 (k : Int)] 3)).heap.size) := Lib.hid (by simp; omega)
                        go_wp2_with (first
                          | (at_builtin; refine wpList_append_own_at _ rfl (.tmp 133) (.tmp 135) 30 rfl (w.heap.size + 4) 3 i0 (.int .i64 0) 1 8 Tryd.underlying30 ji jz0 jz1 jz2 rfl (by decide) u5 LF.length (LF.map (Value.int .i64)) rfl (HOS.out _) ⟨w6.heap.size, 0, none⟩ 1 1 [.int .i64 (k : Int)] rfl rfl HK1.out (one_cell _) HK3.out HK4.out HK5.out ?_)
                          | fail)
                        intro vf' w7 hown hgrow _ hat
                        obtain ⟨hF7, hV7, hP7⟩ := HV6.out.step HP6.out.symm hown hgrow (by simpa using hat)
                        have HC7 := Lib.hid ((HC6.out.alloc _).grown hgrow (fun k hk => HF6.out.low k hk))
                        have HF7 := Lib.hid hF7
                        have HV7 := Lib.hid hV7
                        have HP7 := Lib.hid hP7.symm
                        clear hown hgrow hat hF7 hV7 hP7 HC6 HV6 HF6 HP6 HOS HK1 HK3 HK4 HK5 d6' q2 z2
                        go_wp2
                        go_roundw
                        case rel => exact ⟨k + 1, (.slice av lv cv), by omega, by go_num, HC7, by rw [EV.out, EVV.out]; exact HV7, by rw [EFF.out]; exact HF7, HP7⟩
                        case measure => simp [intOf]; omega
                      · have EFF := Lib.hid (EF2.out (by omega))
                        go_wp2
                        go_roundw
                        case rel => exact ⟨k + 1, (.slice av lv cv), by omega, by go_num, HC6, by rw [EV.out, EVV.out]; exact HV6, by rw [EFF.out]; exact HF6, HP6⟩
                        case measure => simp [intOf]; omega
                  · have HZ := half_zero p1
                    have EVV : Hid (vF kk dd ff (sumP f2 n2 / (cntP f2 n2 : Int)) = 0) := Lib.hid (vF_no (fun h => p2 h.2))
                    have HOS := Lib.hid (fun o => World.ownsRow.alloc hV.out o)
                    have HK3 : Hid (LV.length + 1 ≤ maxLen) := Lib.hid (by unfold maxLen; omega)
                    have HK4 : Hid ((LV.length + 1) * 8 ≤ 140737488355328) := Lib.hid (by omega)
                    have HK5 : Hid (w.heap.size + 4 ≤ (wr.alloc (.cells #[.int .i64 0] 3)).heap.size) := Lib.hid (by simp only [World.size_alloc]; omega)
                    go_wp2_with (first
                      | (at_builtin; refine wpList_append_own_at _ rfl (.tmp 124) (.tmp 126) 30 rfl (w.heap.size + 4) 3 i0 (.int .i64 0) 1 8 Tryd.underlying30 ji jz0 jz1 jz2 rfl (by decide) vc LV.length (LV.map (Value.int .i64)) rfl (HOS.out _) ⟨wr.heap.size, 0, none⟩ 1 1 [.int .i64 0] rfl rfl (HCV.out _ _) (one_cell _) HK3.out HK4.out HK5.out ?_)
                      | fail)
                    intro vc6 w6 hown hgrow _ hat
                    obtain ⟨hV6, hF6, hP6⟩ := hF.out.step hP.out hown hgrow hat
                    obtain ⟨av, lv, cv, rfl⟩ : ∃ a l c, vc6 = .slice a l c := by obtain ⟨a, c, e, _⟩ := hV6.row; exact ⟨a, _, c, e⟩
                    have hC6 := (hC.out.alloc _).grown hgrow (fun k hk => hV.out.low k hk)
                    have q2 := hC6.c2
                    have z2 := hC6.f2
                    have d6' := hC6.set' 6 _ rfl
                    have hs6 := hC6.size
                    have HC6 := Lib.hid (hC6.store2 (.slice av lv cv))
                    have HV6 := Lib.hid (hV6.store (a := ⟨w.heap.size + 2, 2, none⟩) (show w.heap.size + 2 < w.heap.size + 4 by omega) (.slice av lv cv))
                    have HF6 := Lib.hid (hF6.store (a := ⟨w.heap.size + 2, 2, none⟩) (show w.heap.size + 2 < w.heap.size + 4 by omega) (.slice av lv cv))
                    have HP6 := Lib.hid hP6
                    clear hown hgrow hat hV6 hF6 hP6 hC6 hC hV hF hP HOS HK3 HK4 HK5 HCV
                    by_cases hfull : full ≤ kk
                    · have EFF := Lib.hid (EF1.out (by omega))
                      have HOS := Lib.hid (fun o => World.ownsRow.alloc HF6.out o)
                      have HK1 : Hid (∀ j u, [Value.int .i64 (k : Int)][j]? = some u → ((w6.setCell ⟨w.heap.size + 2, 2, none⟩ (.slice av lv cv)).alloc (.cells #[.int .i64 (k : Int)] 3)).cell? ((⟨w6.heap.size, 0, none⟩ : Addr).add j) = some u) := Lib.hid (by
                        have := one_new (w6.setCell ⟨w.heap.size + 2, 2, none⟩ (.slice av lv cv)) (k : Int) 3
                        rwa [show (w6.setCell ⟨w.heap.size + 2, 2, none⟩ (.slice av lv cv)).heap.size = w6.heap.size by simp] at this)
                      have HK3 : Hid (LF.length + 1 ≤ maxLen) := Lib.hid (by unfold maxLen; omega)
                      have HK4 : Hid ((LF.length + 1) * 8 ≤ 140737488355328) := Lib.hid (by omega)
                      have HK5 : Hid (w.heap.size + 4 ≤ ((w6.setCell ⟨w.heap.size + 2, 2, none⟩ (.slice av lv cv)).alloc (.cells #[.int .i64 (k : Int)] 3)).heap.size) := Lib.hid (by simp; omega)
                      go_wp2_with (first
                        | (at_builtin; refine wpList_append_own_at _ rfl (.tmp 133) (.tmp 135) 30 rfl (w.heap.size + 4) 3 i0 (.int .i64 0) 1 8 Tryd.underlying30 ji jz0 jz1 jz2 rfl (by decide) u5 LF.length (LF.map (Value.int .i64)) rfl (HOS.out _) ⟨w6.heap.size, 0, none⟩ 1 1 [.int .i64 (k : Int)] rfl rfl HK1.out (one_cell _) HK3.out HK4.out HK5.out ?_)
                        | fail)
                      intro vf' w7 hown hgrow _ hat
                      obtain ⟨hF7, hV7, hP7⟩ := HV6.out.step HP6.out.symm hown hgrow (by simpa using hat)
                      have HC7 := Lib.hid ((HC6.out.alloc _).grown hgrow (fun k hk => HF6.out.low k hk))
                      have HF7 := Lib.hid hF7
                      have HV7 := Lib.hid hV7
                      have HP7 := Lib.hid hP7.symm
                      clear hown hgrow hat hF7 hV7 hP7 HC6 HV6 HF6 HP6 HOS HK1 HK3 HK4 HK5 d6' q2 z2
                      go_wp2
                      go_roundw
                      case rel => exact ⟨k + 1, (.slice av lv cv), by omega, by go_num, HC7, by rw [EV.out, EVV.out]; exact HV7, by rw [EFF.out]; exact HF7, HP7⟩
                      case measure => simp [intOf]; omega
                    · have EFF := Lib.hid (EF2.out (by omega))
                      go_wp2
                      go_roundw
                      case rel => exact ⟨k + 1, (.slice av lv cv), by omega, by go_num, HC6, by rw [EV.out, EVV.out]; exact HV6, by rw [EFF.out]; exact HF6, HP6⟩
                      case measure => simp [intOf]; omega
                · have EVV : Hid (vF kk dd ff (sumP f2 n2 / (cntP f2 n2 : Int)) = 0) := Lib.hid (vF_no (fun h => p1 h.1))
                  have HOS := Lib.hid (fun o => World.ownsRow.alloc hV.out o)
                  have HK3 : Hid (LV.length + 1 ≤ maxLen) := Lib.hid (by unfold maxLen; omega)
                  have HK4 : Hid ((LV.length + 1) * 8 ≤ 140737488355328) := Lib.hid (by omega)
                  have HK5 : Hid (w.heap.size + 4 ≤ (wr.alloc (.cells #[.int .i64 0] 3)).heap.size) := Lib.hid (by simp only [World.size_alloc]; omega)
                  go_wp2_with (first
                    | (at_builtin; refine wpList_append_own_at _ rfl (.tmp 124) (.tmp 126) 30 rfl (w.heap.size + 4) 3 i0 (.int .i64 0) 1 8 Tryd.underlying30 ji jz0 jz1 jz2 rfl (by decide) vc LV.length (LV.map (Value.int .i64)) rfl (HOS.out _) ⟨wr.heap.size, 0, none⟩ 1 1 [.int .i64 0] rfl rfl (HCV.out _ _) (one_cell _) HK3.out HK4.out HK5.out ?_)
                    | fail)
                  intro vc6 w6 hown hgrow _ hat
                  obtain ⟨hV6, hF6, hP6⟩ := hF.out.step hP.out hown hgrow hat
                  obtain ⟨av, lv, cv, rfl⟩ : ∃ a l c, vc6 = .slice a l c := by obtain ⟨a, c, e, _⟩ := hV6.row; exact ⟨a, _, c, e⟩
                  have hC6 := (hC.out.alloc _).grown hgrow (fun k hk => hV.out.low k hk)
                  have q2 := hC6.c2
                  have z2 := hC6.f2
                  have d6' := hC6.set' 6 _ rfl
                  have hs6 := hC6.size
                  have HC6 := Lib.hid (hC6.store2 (.slice av lv cv))
                  have HV6 := Lib.hid (hV6.store (a := ⟨w.heap.size + 2, 2, none⟩) (show w.heap.size + 2 < w.heap.size + 4 by omega) (.slice av lv cv))
                  have HF6 := Lib.hid (hF6.store (a := ⟨w.heap.size + 2, 2, none⟩) (show w.heap.size + 2 < w.heap.size + 4 by omega) (.slice av lv cv))
                  have HP6 := Lib.hid hP6
                  clear hown hgrow hat hV6 hF6 hP6 hC6 hC hV hF hP HOS HK3 HK4 HK5 HCV
                  by_cases hfull : full ≤ kk
                  · have EFF := Lib.hid (EF1.out (by omega))
                    have HOS := Lib.hid (fun o => World.ownsRow.alloc HF6.out o)
                    have HK1 : Hid (∀ j u, [Value.int .i64 (k : Int)][j]? = some u → ((w6.setCell ⟨w.heap.size + 2, 2, none⟩ (.slice av lv cv)).alloc (.cells #[.int .i64 (k : Int)] 3)).cell? ((⟨w6.heap.size, 0, none⟩ : Addr).add j) = some u) := Lib.hid (by
                      have := one_new (w6.setCell ⟨w.heap.size + 2, 2, none⟩ (.slice av lv cv)) (k : Int) 3
                      rwa [show (w6.setCell ⟨w.heap.size + 2, 2, none⟩ (.slice av lv cv)).heap.size = w6.heap.size by simp] at this)
                    have HK3 : Hid (LF.length + 1 ≤ maxLen) := Lib.hid (by unfold maxLen; omega)
                    have HK4 : Hid ((LF.length + 1) * 8 ≤ 140737488355328) := Lib.hid (by omega)
                    have HK5 : Hid (w.heap.size + 4 ≤ ((w6.setCell ⟨w.heap.size + 2, 2, none⟩ (.slice av lv cv)).alloc (.cells #[.int .i64 (k : Int)] 3)).heap.size) := Lib.hid (by simp; omega)
                    go_wp2_with (first
                      | (at_builtin; refine wpList_append_own_at _ rfl (.tmp 133) (.tmp 135) 30 rfl (w.heap.size + 4) 3 i0 (.int .i64 0) 1 8 Tryd.underlying30 ji jz0 jz1 jz2 rfl (by decide) u5 LF.length (LF.map (Value.int .i64)) rfl (HOS.out _) ⟨w6.heap.size, 0, none⟩ 1 1 [.int .i64 (k : Int)] rfl rfl HK1.out (one_cell _) HK3.out HK4.out HK5.out ?_)
                      | fail)
                    intro vf' w7 hown hgrow _ hat
                    obtain ⟨hF7, hV7, hP7⟩ := HV6.out.step HP6.out.symm hown hgrow (by simpa using hat)
                    have HC7 := Lib.hid ((HC6.out.alloc _).grown hgrow (fun k hk => HF6.out.low k hk))
                    have HF7 := Lib.hid hF7
                    have HV7 := Lib.hid hV7
                    have HP7 := Lib.hid hP7.symm
                    clear hown hgrow hat hF7 hV7 hP7 HC6 HV6 HF6 HP6 HOS HK1 HK3 HK4 HK5 d6' q2 z2
                    go_wp2
                    go_roundw
                    case rel => exact ⟨k + 1, (.slice av lv cv), by omega, by go_num, HC7, by rw [EV.out, EVV.out]; exact HV7, by rw [EFF.out]; exact HF7, HP7⟩
                    case measure => simp [intOf]; omega
                  · have EFF := Lib.hid (EF2.out (by omega))
                    go_wp2
                    go_roundw
                    case rel => exact ⟨k + 1, (.slice av lv cv), by omega, by go_num, HC6, by rw [EV.out, EVV.out]; exact HV6, by rw [EFF.out]; exact HF6, HP6⟩
                    case measure => simp [intOf]; omega
              · obtain rfl : n0 = k := by omega
                have hV3 := ((hV.out.store (a := ⟨w.heap.size + 2, 0, none⟩) (show w.heap.size + 2 < w.heap.size + 4 by omega) (.int .i64 W0)).store (a := ⟨w.heap.size + 2, 1, none⟩) (show w.heap.size + 2 < w.heap.size + 4 by omega) (.int .i64 H0)).store (a := ⟨w.heap.size + 2, 2, none⟩) (show w.heap.size + 2 < w.heap.size + 4 by omega) vc
                have hF3 := ((hF.out.store (a := ⟨w.heap.size + 2, 0, none⟩) (show w.heap.size + 2 < w.heap.size + 4 by omega) (.int .i64 W0)).store (a := ⟨w.heap.size + 2, 1, none⟩) (show w.heap.size + 2 < w.heap.size + 4 by omega) (.int .i64 H0)).store (a := ⟨w.heap.size + 2, 2, none⟩) (show w.heap.size + 2 < w.heap.size + 4 by omega) vc
                have hC3 := hC.out.store3 (.int .i64 W0) (.int .i64 H0) vc
                obtain ⟨av, cv, rfl, hRV, hLV⟩ := hV3.row2
                obtain ⟨af, cf, rfl, hRF, hLF⟩ := hF3.row2
                rw [VL_len] at hRV hRF hC3
                have q0 := hC.out.c0
                have q1 := hC.out.c1
                have q2 := hC.out.c2
                rw [VL_len] at q2
                have z0 := hC.out.f0
                have z1 := hC.out.f1
                have z2 := hC.out.f2
                have HRV := Lib.hid hRV
                have HRF := Lib.hid hRF
                have HLV := Lib.hid (hLV.mono (Nat.le_add_right w.heap.size 4))
                have HLF := Lib.hid (hLF.mono (Nat.le_add_right w.heap.size 4))
                clear hLV hLF
                have HC3 := Lib.hid hC3.bel
                have t0 := hC3.c0
                have t1 := hC3.c1
                have t2 := hC3.c2
                clear hRV hRF hC3 hV3 hF3 hV hF hP
                go_wp2
                refine bodyPost_ret (v := .tuple #[.agg #[.int .i64 W0, .int .i64 H0, .slice av n0 cv], .slice af (FL f0 full n0).length cf, .nilIface]) ?_ rfl (Or.inl ⟨HFIT.out, av, af, cv, cf, rfl, HRV.out, HRF.out, HC3.out, HLV.out, HLF.out⟩)
                simp [results, Tryd.results27, go_sem, t0, t1, t2]
        · have b2 : (W0 == W2 && H0 == H2) = false := by simpa using A2
          have HNO : Hid (¬ fits W0 H0 W1 H1 W2 H2 full (cntP f2 n2)) := Lib.hid (fun h => A2 ⟨h.2.2.1, h.2.2.2.1⟩)
          clear A2
          have m20 := HC.out.pic 0 _ rfl
          have m21 := HC.out.pic 1 _ rfl
          have m22 := HC.out.pic 2 _ rfl
          have m23 := HC.out.set' 3 _ rfl
          have m24 := HC.out.set' 4 _ rfl
          have m25 := HC.out.set' 5 _ rfl
          go_wp2_with fail
          refine (alike_any W0 H0 W2 H2 a0 a2 n0 n2 c0 c2 _).mono ?_; rintro e w5 ⟨rfl, hb⟩
          rw [b2]
          have HC := Lib.hid (HC.out.below hb)
          clear hb m20 m21 m22 m23 m24 m25
          have hS : Late3 w 2 (.iface 202 (.pointer (some (ad 4)))) w5 := ⟨cell_lt (HE.out 4 (by decide)), (HE.out.below HC.out.bel) 4 (by decide), HC.out.c0, HC.out.c1, HC.out.c2, HC.out.f0, HC.out.f1, HC.out.f2, HC.out.bel⟩
          have HS := Lib.hid hS
          have g2 := hS.2.1
          have q0 := hS.2.2.1
          have q1 := hS.2.2.2.1
          have q2 := hS.2.2.2.2.1
          have z0 := hS.2.2.2.2.2.1
          have z1 := hS.2.2.2.2.2.2.1
          have z2 := hS.2.2.2.2.2.2.2.1
          clear hS
          go_wp2
          go_region_held3 (fun w' => w'.cell? ⟨2, 0, none⟩ = some (.iface 202 (.pointer (some (ad 4)))) ∧ w'.cell? ⟨w.heap.size + 2, 0, none⟩ = some (.int .i64 0) ∧ w'.cell? ⟨w.heap.size + 2, 1, none⟩ = some (.int .i64 0) ∧ w'.cell? ⟨w.heap.size + 2, 2, none⟩ = some (.slice none 0 0) ∧ w'.frozen? ⟨w.heap.size + 2, 0, none⟩ = false ∧ w'.frozen? ⟨w.heap.size + 2, 1, none⟩ = false ∧ w'.frozen? ⟨w.heap.size + 2, 2, none⟩ = false ∧ Below w.heap.size w w')
            (first | (exact HS.out.2) | (exact HS.out.drew.2) | (exact HS.out.store.2) | (exact HS.out.drew.store.2) | (exact HS.out.store.drew.2) | assumption) (fail)
          go_wp2
          refine bodyPost_ret (v := .tuple #[.agg #[.int .i64 0, .int .i64 0, .slice none 0 0], .slice none 0 0, .iface 202 (.pointer (some (ad 4)))]) ?_ rfl (Or.inr ⟨HNO.out, rfl, HS.out.store.drew.2.2.2.2.2.2.2.2⟩)
          simp [results, Tryd.results27, go_sem, q0, q1, q2]
      · have b1 : (W0 == W1 && H0 == H1) = false := by simpa using A1
        have HNO : Hid (¬ fits W0 H0 W1 H1 W2 H2 full (cntP f2 n2)) := Lib.hid (fun h => A1 ⟨h.1, h.2.1⟩)
        clear A1
        have m10 := HC.out.pic 0 _ rfl
        have m11 := HC.out.pic 1 _ rfl
        have m12 := HC.out.pic 2 _ rfl
        have m13 := HC.out.set' 0 _ rfl
        have m14 := HC.out.set' 1 _ rfl
        have m15 := HC.out.set' 2 _ rfl
        go_wp2_with fail
        refine (alike_any W0 H0 W1 H1 a0 a1 n0 n1 c0 c1 _).mono ?_; rintro e w4 ⟨rfl, hb⟩
        rw [b1]
        have HC := Lib.hid (HC.out.below hb)
        clear hb m10 m11 m12 m13 m14 m15
        have hS : Late3 w 2 (.iface 202 (.pointer (some (ad 4)))) w4 := ⟨cell_lt (HE.out 4 (by decide)), (HE.out.below HC.out.bel) 4 (by decide), HC.out.c0, HC.out.c1, HC.out.c2, HC.out.f0, HC.out.f1, HC.out.f2, HC.out.bel⟩
        have HS := Lib.hid hS
        have g2 := hS.2.1
        have q0 := hS.2.2.1
        have q1 := hS.2.2.2.1
        have q2 := hS.2.2.2.2.1
        have z0 := hS.2.2.2.2.2.1
        have z1 := hS.2.2.2.2.2.2.1
        have z2 := hS.2.2.2.2.2.2.2.1
        clear hS
        go_wp2
        go_region_held3 (fun w' => w'.cell? ⟨2, 0, none⟩ = some (.iface 202 (.pointer (some (ad 4)))) ∧ w'.cell? ⟨w.heap.size + 2, 0, none⟩ = some (.int .i64 0) ∧ w'.cell? ⟨w.heap.size + 2, 1, none⟩ = some (.int .i64 0) ∧ w'.cell? ⟨w.heap.size + 2, 2, none⟩ = some (.slice none 0 0) ∧ w'.frozen? ⟨w.heap.size + 2, 0, none⟩ = false ∧ w'.frozen? ⟨w.heap.size + 2, 1, none⟩ = false ∧ w'.frozen? ⟨w.heap.size + 2, 2, none⟩ = false ∧ Below w.heap.size w w')
          (first | (exact HS.out.2) | (exact HS.out.drew.2) | (exact HS.out.store.2) | (exact HS.out.drew.store.2) | (exact HS.out.store.drew.2) | assumption) (fail)
        go_wp2
        refine bodyPost_ret (v := .tuple #[.agg #[.int .i64 0, .int .i64 0, .slice none 0 0], .slice none 0 0, .iface 202 (.pointer (some (ad 4)))]) ?_ rfl (Or.inr ⟨HNO.out, rfl, HS.out.store.drew.2.2.2.2.2.2.2.2⟩)
        simp [results, Tryd.results27, go_sem, q0, q1, q2]
end Go.Proofs.YtegnjiecninlaaaDoor
