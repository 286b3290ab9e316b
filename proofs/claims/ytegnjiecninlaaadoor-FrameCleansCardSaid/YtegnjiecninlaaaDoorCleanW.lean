/- Cleaned pictures: the walks of (frame.Set).Clean. -/
import Derived.Test.YtegnjiecninlaaaDoorClean
namespace Go.Proofs.YtegnjiecninlaaaDoor
open Go.RowKit

set_option maxRecDepth 10000 in
set_option maxHeartbeats 2000000 in
theorem clean_bad0 (ad : Nat → Addr) (W0 H0 W1 H1 W2 H2 full : Int) (f0 f1 f2 : Nat → Int) (a0 a1 a2 : Option Addr) (n0 n1 n2 c0 c1 c2 : Nat) (w : World) (he : Errs w ad [1, 4]) (h0 : IRow w a0 n0 f0) (h1 : IRow w a1 n1 f1) (h2 : IRow w a2 n2 f2) (hn : n0 ≤ 9223372036854775807) (g0 : ¬ picG W0 H0 n0 f0) :
    Calls Tryd.prog 27 #[.agg #[.int .i64 W1, .int .i64 H1, .slice a1 n1 c1, .int .i64 W2, .int .i64 H2, .slice a2 n2 c2, .int .i64 full], .agg #[.int .i64 W0, .int .i64 H0, .slice a0 n0 c0]] w fun e w' => e = .returned (.tuple #[.agg #[.int .i64 0, .int .i64 0, .slice none 0 0], .slice none 0 0, errV ad (picB W0 H0)]) ∧ Below w.heap.size w w' := by
  have HE := Lib.hid he
  have HI0 := Lib.hid h0
  have HI1 := Lib.hid h1
  have HI2 := Lib.hid h2
  have HV0 := Lib.hid (fun W (hE : Errs W ad [1, 4]) (hI : IRow W a0 n0 f0) => validP_bad ad W0 H0 f0 a0 n0 c0 W hE hI hn g0)
  unfold errV at HV0 ⊢
  clear he h0 h1 h2
  go_enter Tryd.func27, Tryd.ntmps27
  go_wp2
  refine wp_loop_rounds 4 ?_
  rw [rounds_succ]
  go_wp2_with fail
  refine (HV0.out _ (HE.out.below (by go_grown)) (HI0.out.below (by go_grown))).mono ?_; rintro e w1 ⟨rfl, hb1⟩
  have hL := clean_laid w [.int .i64 W1, .int .i64 H1, .slice a1 n1 c1, .int .i64 W2, .int .i64 H2, .slice a2 n2 c2, .int .i64 full] [.int .i64 W0, .int .i64 H0, .slice a0 n0 c0] [.int .i64 0, .int .i64 0, .slice none 0 0] [.int .i64 W0, .int .i64 H0, .slice a0 n0 c0, .int .i64 W1, .int .i64 H1, .slice a1 n1 c1, .int .i64 W2, .int .i64 H2, .slice a2 n2 c2] _ _ _ rfl 51 48 48 48
  have hC1 := (hL.1.alloc _).below hb1
  have hN1 := (hL.2.old (by simp <;> omega) _).below hb1 (by simp <;> omega)
  clear hL hb1
  have q0 := hC1.c0
  have q1 := hC1.c1
  have q2 := hC1.c2
  have z0 := hC1.f0
  have z1 := hC1.f1
  have z2 := hC1.f2
  have HB := Lib.hid hC1.bel
  clear hC1 hN1
  go_wp2
  refine bodyPost_ret (v := .tuple #[.agg #[.int .i64 0, .int .i64 0, .slice none 0 0], .slice none 0 0, .iface 202 (.pointer (some (ad (picB W0 H0))))]) ?_ rfl ⟨rfl, ?_⟩
  · simp [results, Tryd.results27, go_sem, q0, q1, q2]
  · exact ((HB.out.setCell (show w.heap.size ≤ w.heap.size + 2 by omega) _).setCell (show w.heap.size ≤ w.heap.size + 2 by omega) _).setCell (show w.heap.size ≤ w.heap.size + 2 by omega) _

set_option maxRecDepth 10000 in
set_option maxHeartbeats 2000000 in
theorem clean_bad1 (ad : Nat → Addr) (W0 H0 W1 H1 W2 H2 full : Int) (f0 f1 f2 : Nat → Int) (a0 a1 a2 : Option Addr) (n0 n1 n2 c0 c1 c2 : Nat) (w : World) (he : Errs w ad [1, 4]) (h0 : IRow w a0 n0 f0) (h1 : IRow w a1 n1 f1) (h2 : IRow w a2 n2 f2) (g0 : picG W0 H0 n0 f0) (hn : n1 ≤ 9223372036854775807) (g1 : ¬ picG W1 H1 n1 f1) :
    Calls Tryd.prog 27 #[.agg #[.int .i64 W1, .int .i64 H1, .slice a1 n1 c1, .int .i64 W2, .int .i64 H2, .slice a2 n2 c2, .int .i64 full], .agg #[.int .i64 W0, .int .i64 H0, .slice a0 n0 c0]] w fun e w' => e = .returned (.tuple #[.agg #[.int .i64 0, .int .i64 0, .slice none 0 0], .slice none 0 0, errV ad (picB W1 H1)]) ∧ Below w.heap.size w w' := by
  have HE := Lib.hid he
  have HI0 := Lib.hid h0
  have HI1 := Lib.hid h1
  have HI2 := Lib.hid h2
  have HV0 := Lib.hid (fun W (hE : Errs W ad [1, 4]) (hI : IRow W a0 n0 f0) => validP_ok ad W0 H0 f0 a0 n0 c0 W hE hI g0)
  have HV1 := Lib.hid (fun W (hE : Errs W ad [1, 4]) (hI : IRow W a1 n1 f1) => validP_bad ad W1 H1 f1 a1 n1 c1 W hE hI hn g1)
  unfold errV at HV1 ⊢
  clear he h0 h1 h2
  go_enter Tryd.func27, Tryd.ntmps27
  go_wp2
  refine wp_loop_rounds 4 ?_
  rw [rounds_succ]
  go_wp2_with fail
  refine (HV0.out _ (HE.out.below (by go_grown)) (HI0.out.below (by go_grown))).mono ?_; rintro e w1 ⟨rfl, hb1⟩
  have hL := clean_laid w [.int .i64 W1, .int .i64 H1, .slice a1 n1 c1, .int .i64 W2, .int .i64 H2, .slice a2 n2 c2, .int .i64 full] [.int .i64 W0, .int .i64 H0, .slice a0 n0 c0] [.int .i64 0, .int .i64 0, .slice none 0 0] [.int .i64 W0, .int .i64 H0, .slice a0 n0 c0, .int .i64 W1, .int .i64 H1, .slice a1 n1 c1, .int .i64 W2, .int .i64 H2, .slice a2 n2 c2] _ _ _ rfl 51 48 48 48
  have hC1 := (hL.1.alloc _).below hb1
  have hN1 := (hL.2.old (by simp <;> omega) _).below hb1 (by simp <;> omega)
  clear hL hb1
  have e10 : w1.cell? ⟨w.heap.size + 3, 3, none⟩ = some (.int .i64 W1) := hN1 3 _ rfl
  have e11 : w1.cell? ⟨w.heap.size + 3, 4, none⟩ = some (.int .i64 H1) := hN1 4 _ rfl
  have e12 : w1.cell? ⟨w.heap.size + 3, 5, none⟩ = some (.slice a1 n1 c1) := hN1 5 _ rfl
  have HC1 := Lib.hid hC1
  have HN1 := Lib.hid hN1
  have hz1 := hC1.size
  clear hC1 hN1
  go_wp2
  rw [rounds_succ]
  go_wp2_with fail
  refine (HV1.out _ (HE.out.below (HC1.out.alloc _).bel) (HI1.out.below (HC1.out.alloc _).bel)).mono ?_; rintro e w2 ⟨rfl, hb2⟩
  have hC2 := (HC1.out.alloc _).below hb2
  have hN2 := (HN1.out.old (by omega) _).below hb2 (by simp only [World.size_alloc]; omega)
  clear hb2 e10 e11 e12 HC1 HN1 hz1
  have q0 := hC2.c0
  have q1 := hC2.c1
  have q2 := hC2.c2
  have z0 := hC2.f0
  have z1 := hC2.f1
  have z2 := hC2.f2
  have HB := Lib.hid hC2.bel
  clear hC2 hN2
  go_wp2
  refine bodyPost_ret (v := .tuple #[.agg #[.int .i64 0, .int .i64 0, .slice none 0 0], .slice none 0 0, .iface 202 (.pointer (some (ad (picB W1 H1))))]) ?_ rfl ⟨rfl, ?_⟩
  · simp [results, Tryd.results27, go_sem, q0, q1, q2]
  · exact ((HB.out.setCell (show w.heap.size ≤ w.heap.size + 2 by omega) _).setCell (show w.heap.size ≤ w.heap.size + 2 by omega) _).setCell (show w.heap.size ≤ w.heap.size + 2 by omega) _

set_option maxRecDepth 10000 in
set_option maxHeartbeats 2000000 in
theorem clean_bad2 (ad : Nat → Addr) (W0 H0 W1 H1 W2 H2 full : Int) (f0 f1 f2 : Nat → Int) (a0 a1 a2 : Option Addr) (n0 n1 n2 c0 c1 c2 : Nat) (w : World) (he : Errs w ad [1, 4]) (h0 : IRow w a0 n0 f0) (h1 : IRow w a1 n1 f1) (h2 : IRow w a2 n2 f2) (g0 : picG W0 H0 n0 f0) (g1 : picG W1 H1 n1 f1) (hn : n2 ≤ 9223372036854775807) (g2 : ¬ picG W2 H2 n2 f2) :
    Calls Tryd.prog 27 #[.agg #[.int .i64 W1, .int .i64 H1, .slice a1 n1 c1, .int .i64 W2, .int .i64 H2, .slice a2 n2 c2, .int .i64 full], .agg #[.int .i64 W0, .int .i64 H0, .slice a0 n0 c0]] w fun e w' => e = .returned (.tuple #[.agg #[.int .i64 0, .int .i64 0, .slice none 0 0], .slice none 0 0, errV ad (picB W2 H2)]) ∧ Below w.heap.size w w' := by
  have HE := Lib.hid he
  have HI0 := Lib.hid h0
  have HI1 := Lib.hid h1
  have HI2 := Lib.hid h2
  have HV0 := Lib.hid (fun W (hE : Errs W ad [1, 4]) (hI : IRow W a0 n0 f0) => validP_ok ad W0 H0 f0 a0 n0 c0 W hE hI g0)
  have HV1 := Lib.hid (fun W (hE : Errs W ad [1, 4]) (hI : IRow W a1 n1 f1) => validP_ok ad W1 H1 f1 a1 n1 c1 W hE hI g1)
  have HV2 := Lib.hid (fun W (hE : Errs W ad [1, 4]) (hI : IRow W a2 n2 f2) => validP_bad ad W2 H2 f2 a2 n2 c2 W hE hI hn g2)
  unfold errV at HV2 ⊢
  clear he h0 h1 h2
  go_enter Tryd.func27, Tryd.ntmps27
  go_wp2
  refine wp_loop_rounds 4 ?_
  rw [rounds_succ]
  go_wp2_with fail
  refine (HV0.out _ (HE.out.below (by go_grown)) (HI0.out.below (by go_grown))).mono ?_; rintro e w1 ⟨rfl, hb1⟩
  have hL := clean_laid w [.int .i64 W1, .int .i64 H1, .slice a1 n1 c1, .int .i64 W2, .int .i64 H2, .slice a2 n2 c2, .int .i64 full] [.int .i64 W0, .int .i64 H0, .slice a0 n0 c0] [.int .i64 0, .int .i64 0, .slice none 0 0] [.int .i64 W0, .int .i64 H0, .slice a0 n0 c0, .int .i64 W1, .int .i64 H1, .slice a1 n1 c1, .int .i64 W2, .int .i64 H2, .slice a2 n2 c2] _ _ _ rfl 51 48 48 48
  have hC1 := (hL.1.alloc _).below hb1
  have hN1 := (hL.2.old (by simp <;> omega) _).below hb1 (by simp <;> omega)
  clear hL hb1
  have e10 : w1.cell? ⟨w.heap.size + 3, 3, none⟩ = some (.int .i64 W1) := hN1 3 _ rfl
  have e11 : w1.cell? ⟨w.heap.size + 3, 4, none⟩ = some (.int .i64 H1) := hN1 4 _ rfl
  have e12 : w1.cell? ⟨w.heap.size + 3, 5, none⟩ = some (.slice a1 n1 c1) := hN1 5 _ rfl
  have HC1 := Lib.hid hC1
  have HN1 := Lib.hid hN1
  have hz1 := hC1.size
  clear hC1 hN1
  go_wp2
  rw [rounds_succ]
  go_wp2_with fail
  refine (HV1.out _ (HE.out.below (HC1.out.alloc _).bel) (HI1.out.below (HC1.out.alloc _).bel)).mono ?_; rintro e w2 ⟨rfl, hb2⟩
  have hC2 := (HC1.out.alloc _).below hb2
  have hN2 := (HN1.out.old (by omega) _).below hb2 (by simp only [World.size_alloc]; omega)
  clear hb2 e10 e11 e12 HC1 HN1 hz1
  have e20 : w2.cell? ⟨w.heap.size + 3, 6, none⟩ = some (.int .i64 W2) := hN2 6 _ rfl
  have e21 : w2.cell? ⟨w.heap.size + 3, 7, none⟩ = some (.int .i64 H2) := hN2 7 _ rfl
  have e22 : w2.cell? ⟨w.heap.size + 3, 8, none⟩ = some (.slice a2 n2 c2) := hN2 8 _ rfl
  have HC2 := Lib.hid hC2
  have HN2 := Lib.hid hN2
  have hz2 := hC2.size
  clear hC2 hN2
  go_wp2
  rw [rounds_succ]
  go_wp2_with fail
  refine (HV2.out _ (HE.out.below (HC2.out.alloc _).bel) (HI2.out.below (HC2.out.alloc _).bel)).mono ?_; rintro e w3 ⟨rfl, hb3⟩
  have hC3 := (HC2.out.alloc _).below hb3
  have hN3 := (HN2.out.old (by omega) _).below hb3 (by simp only [World.size_alloc]; omega)
  clear hb3 e20 e21 e22 HC2 HN2 hz2
  have q0 := hC3.c0
  have q1 := hC3.c1
  have q2 := hC3.c2
  have z0 := hC3.f0
  have z1 := hC3.f1
  have z2 := hC3.f2
  have HB := Lib.hid hC3.bel
  clear hC3 hN3
  go_wp2
  refine bodyPost_ret (v := .tuple #[.agg #[.int .i64 0, .int .i64 0, .slice none 0 0], .slice none 0 0, .iface 202 (.pointer (some (ad (picB W2 H2))))]) ?_ rfl ⟨rfl, ?_⟩
  · simp [results, Tryd.results27, go_sem, q0, q1, q2]
  · exact ((HB.out.setCell (show w.heap.size ≤ w.heap.size + 2 by omega) _).setCell (show w.heap.size ≤ w.heap.size + 2 by omega) _).setCell (show w.heap.size ≤ w.heap.size + 2 by omega) _

end Go.Proofs.YtegnjiecninlaaaDoor
