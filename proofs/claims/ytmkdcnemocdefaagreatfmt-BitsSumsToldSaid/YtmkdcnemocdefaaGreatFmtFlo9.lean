/- usub: the sum is taken from the number. -/
import Derived.Test.YtmkdcnemocdefaaGreatFmtFlo5
namespace Go.Proofs.YtmkdcnemocdefaaGreatFmt
open Go.RowKit

theorem top_ne {K n A S : Nat} {f : Nat → Nat} (h : Man K (num f n) n A S) (hf : Wds f n) : f (n - 1) ≠ 0 := by
  have q := top_ge h.pos.2.2 hf h.lo
  omega
set_option maxRecDepth 20000 in
set_option maxHeartbeats 8000000 in
theorem usub_two {K B : Nat} {w : World} {b g c n p gy : Nat} {acc ay : Int} {sx sy : Bool} {f : Nat → Nat} {v A1 A2 S1 S2 : Nat} (h : Pair K B w b g c n p gy acc ay sx sy f v A1 A2 S1 S2) (hS : S1 ≤ S2) :
    Calls Tryz.prog 35 #[.pointer (some ⟨b, 0, none⟩), .pointer (some ⟨p, 0, none⟩), .pointer (some ⟨b, 0, none⟩)] w fun e w' => e = .returned (.tuple #[]) ∧ SubR K w w' b g c sx (S2 - S1) := by
  have ⟨n1, s1, s2, t1, t2, u1, u2⟩ := h.nums
  have H := Lib.hid h
  have x5 := h.fx.c5
  have x6 := h.fx.c6
  have y5 := h.fy.c5
  have y6 := h.fy.c6
  have n38 := h.n38
  have hK := h.hK
  have nc := h.nc
  have hc := h.c3
  have lg : g < w.heap.size := h.bx.lt
  have lb : b < w.heap.size := h.fx.lt
  have lp : gy < w.heap.size := h.bv.lt
  have lpp : p < w.heap.size := h.fy.lt
  obtain ⟨E1, hE1⟩ : ∃ E : Int, E = ((A1 + 64 * n : Nat) - (K : Int) - 1074) := ⟨_, rfl⟩
  obtain ⟨E2, hE2⟩ : ∃ E : Int, E = ((A2 + 64 * 1 : Nat) - (K : Int) - 1074) := ⟨_, rfl⟩
  obtain ⟨X1, hX1⟩ : ∃ E : Int, E = (A1 : Int) - (K : Int) - 1074 := ⟨_, rfl⟩
  obtain ⟨X2, hX2⟩ : ∃ E : Int, E = (A2 : Int) - (K : Int) - 1074 := ⟨_, rfl⟩
  obtain ⟨A, hAm⟩ : ∃ A, A = min A1 A2 := ⟨_, rfl⟩
  obtain ⟨X, hX⟩ : ∃ E : Int, E = (A : Int) - (K : Int) - 1074 := ⟨_, rfl⟩
  rw [← hE1] at x6
  rw [← hE2] at y6
  have q1 : E1 - (n : Int) * 64 = X1 := by omega
  have q2 : E2 - 64 = X2 := by omega
  have hx1 : -20000 ≤ X1 ∧ X1 ≤ 20000 := by omega
  have hx2 : -20000 ≤ X2 ∧ X2 ≤ 20000 := by omega
  have hx : -20000 ≤ X ∧ X ≤ 20000 := by omega
  have he1 : -20000 ≤ E1 ∧ E1 ≤ 20000 := by omega
  have he2 : -20000 ≤ E2 ∧ E2 ≤ 20000 := by omega
  have hA63 : 63 ≤ A := by omega
  have HX := Lib.hid (And.intro hX1 (And.intro hX2 (And.intro hX hAm)))
  clear hE1 hE2 hX1 hX2 hX hAm h
  have HAl : Hid (∀ a m, Calls Tryz.prog 48 #[.slice (some ⟨g, 0, none⟩) n c, .slice (some ⟨g, 0, none⟩) n c] (w.drewN (a + m)) fun e w' => e = .returned (.bool true) ∧ ∃ k, w' = w.drewN (a + k)) := Lib.hid (fun a m => (alias_same g n c (by omega) (by omega) (w.drewN (a + m))).mono (fun e w' ⟨h1, k, h2⟩ => ⟨h1, m + k, by rw [h2, World.drewN_drewN, Nat.add_assoc]⟩))
  have HAl2 : Hid (∀ a m, Calls Tryz.prog 48 #[.slice (some ⟨g, 0, none⟩) n c, .slice (some ⟨gy, 0, none⟩) 1 1] (w.drewN (a + m)) fun e w' => e = .returned (.bool false) ∧ ∃ k, w' = w.drewN (a + k)) := Lib.hid (fun a m => (alias_diff g n c gy 1 1 H.out.gy' (by omega) (by omega) (by omega) (by omega) (w.drewN (a + m)) ((H.out.bx.drewN (a + m)).row H.out.wf n1 nc (by omega)).obj ((H.out.bv.drewN (a + m)).row (fun _ _ => H.out.wv) (Nat.le_refl _) (Nat.le_refl _) (by omega)).obj).mono (fun e w' ⟨h1, k, h2⟩ => ⟨h1, m + k, by rw [h2, World.drewN_drewN, Nat.add_assoc]⟩))
  go_enter Tryz.func35, Tryz.ntmps35
  go_wp2_with fail
  go_quiet (fail)
  rename Nat => m1
  go_wp2_with fail
  go_quiet (fail)
  rename Nat => m2
  go_wp2_with fail
  go_quiet (first | (go_at_call 48; first | with_reducible exact HAl2.out _ _ | with_reducible exact HAl.out _ _))
  go_upto_block 0 with (fail)
  go_cut [6, 9, 10] (fun x6' _ _ wx => x6' = .int .i64 X ∧ ∃ g2 c2 k2, Hid (PostS K w wx b g c g2 c2 k2 acc sx ((A1 + 64 * n : Nat) - (K : Int) - 1074) A (S2 - S1)))
  case first =>
    obtain ⟨hX1, hX2, hX, hAm⟩ := HX.out
    rcases Nat.lt_trichotomy A1 A2 with hA0 | hA0 | hA0
    · have hA : A = A1 := by omega
      obtain ⟨d, hd⟩ : ∃ d, A2 - A1 = d := ⟨_, rfl⟩
      have q3 : X2 - X1 = (d : Int) := by omega
      have q4 : X1 < X2 := by omega
      have q5 : ¬ (X2 < X1) := by omega
      have qX : X = X1 := by omega
      have HqX := Lib.hid qX
      have HAA := Lib.hid hA
      clear qX hA
      obtain ⟨M, hM⟩ : ∃ M, M = m1 + (m2 + nq) := ⟨_, rfl⟩
      rw [World.drewN_drewN, World.drewN_drewN, ← hM]
      clear hM HAl HAl2 HX x6 y6 hX1 hX2 hX hAm
      have RY : Row (w.drewN M) gy 1 1 (fun _ => v) := (H.out.bv.drewN M).row (fun _ _ => H.out.wv) (Nat.le_refl _) (Nat.le_refl _) (by omega)
      go_wp2_with fail
      refine (lsh_any 0 gy 1 1 d (fun _ => v) (w.drewN M) RY (by omega) (by omega) (by omega)).mono ?_; rintro e w1 ⟨r, rfl, gt, ct, kt, ft, rfl, hN⟩
      rw [num_one] at hN
      obtain ⟨ht1, ht2, ht3, ht4, ht5, ht6, ht7, ht8, ht9⟩ := hN
      have kt1 : 1 ≤ kt := by
        rcases Nat.eq_zero_or_pos kt with e | e
        · subst e
          have hv := H.out.m2.pos.1
          have : 0 < v * 2 ^ d := Nat.mul_pos hv (Nat.two_pow_pos _)
          rw [← ht4] at this
          simp [num] at this
        · exact e
      have ktt : ft (kt - 1) ≠ 0 := by
        rcases ht5 with e | e
        · omega
        · exact e
      have hgt : w.heap.size ≤ gt ∧ ct ≤ d / 64 + 1 + 1 + 4 := by
        rcases ht7 with ⟨_, e⟩ | e
        · omega
        · rw [heap_drewN] at e; exact e
      have eg : w1.heap[g]? = w.heap[g]? := by rw [ht8 g (by rw [heap_drewN]; exact lg) (by omega), heap_drewN]
      have ey : w1.heap[gy]? = w.heap[gy]? := by rw [ht8 gy (by rw [heap_drewN]; exact lp) (by omega), heap_drewN]
      have eb : w1.heap[b]? = w.heap[b]? := by rw [ht8 b (by rw [heap_drewN]; exact lb) (by omega), heap_drewN]
      have ep : w1.heap[p]? = w.heap[p]? := by rw [ht8 p (by rw [heap_drewN]; exact lpp) (by omega), heap_drewN]
      have x5' : w1.cell? ⟨b, 5, none⟩ = some (.slice (some ⟨g, 0, none⟩) n c) := (cell_of_heap eb 5).trans x5
      have y5' : w1.cell? ⟨p, 5, none⟩ = some (.slice (some ⟨gy, 0, none⟩) 1 1) := (cell_of_heap ep 5).trans y5
      have kd : kt ≤ 113 := by omega
      have RX : Row w1 g c n f := (H.out.bx.of_eq (w' := w1) eg).row H.out.wf n1 nc (by omega)
      have RY2 : Row w1 gy 1 1 (fun _ => v) := (H.out.bv.of_eq (w' := w1) ey).row (fun _ _ => H.out.wv) (Nat.le_refl _) (Nat.le_refl _) (by omega)
      have RT : Row w1 gt ct kt ft := ht1.row ht2 kt1 ht3 (by omega)
      have OT : Old w1 (.slice (some ⟨gt, 0, none⟩) kt ct) gt ct := Or.inr ⟨kt, ft, rfl, ht1⟩
      have lsz : w.heap.size ≤ w1.heap.size := by
        have q := (ht9 0 (Nat.zero_le _) (Nat.zero_le _)).size
        rw [heap_drewN] at q; exact q
      have HF := Lib.hid (H.out.fx.of_eq (w' := w1) eb)
      have HFr : Hid (Fr w w1 b g) := Lib.hid ⟨fun k hk _ _ => by rw [ht8 k (by rw [heap_drewN]; exact hk) (by omega), heap_drewN], lsz, fun B h1 h2 h3 => (below_drewN (Below.refl B w) M).trans (ht9 B (by omega) (by rw [heap_drewN]; exact h3))⟩
      have hT : num ft kt * 2 ^ A = S2 * 2 ^ K := by
        rw [ht4, HAA.out, show A1 = A2 - d by omega]
        exact val_shift H.out.m2.val d (by omega)
      have hU : num f n * 2 ^ A = S1 * 2 ^ K := by rw [HAA.out]; exact H.out.m1.val
      have hle : num f n ≤ num ft kt := (val_le hU hT).2 (by omega)
      have HA := Lib.hid (sub_any (.slice (some ⟨gt, 0, none⟩) kt ct) gt ct gt ct kt g c n ft f w1 OT RT RX (fun _ => rfl) (by omega) (num_len hle ht2 n1 (top_ne H.out.m1 H.out.wf)) hle)
      have HV : Hid ((num ft kt - num f n) * 2 ^ A = (S2 - S1) * 2 ^ K) := Lib.hid (val_sub hT hU)
      have HQ : Hid (∀ w2 g2 c2 k2, NatR w1 w2 (.slice (some ⟨g2, 0, none⟩) k2 c2) gt ct (kt) (num ft kt - num f n) → w2.cell? ⟨b, 5, none⟩ = some (.slice (some ⟨g, 0, none⟩) n c) ∧ w2.frozen? ⟨b, 5, none⟩ = false) := Lib.hid (fun w2 g2 c2 k2 hr => field_of HF.out (by omega) hr)
      clear x5 y5 hT hU hle
      clear RX RY2 RT OT ht1 ht2 ht3 ht4 ht5 ht6 ht7 ht8 ht9 eg eb ey ep
      go_wp2_with fail
      refine HA.out.mono ?_; rintro e w2 ⟨r, rfl, g2, c2, k2, f2, rfl, hN2⟩; obtain ⟨h5, h6⟩ := HQ.out w2 g2 c2 k2 ⟨g2, c2, k2, f2, rfl, hN2⟩
      go_wp2_with fail
      go_meet
      exact ⟨by rw [HqX.out], g2, c2, k2, Lib.hid (posts_of HF.out (by omega) HFr.out (Or.inr ⟨hgt.1, by omega⟩) ⟨g2, c2, k2, f2, rfl, hN2⟩ (by omega) HV.out)⟩
    · have hA : A = A1 := by omega
      have qX : X = X2 := by omega
      have q4 : ¬ (X1 < X2) := by omega
      have q5 : ¬ (X2 < X1) := by omega
      have HqX := Lib.hid qX
      have HAA := Lib.hid hA
      clear qX hA
      obtain ⟨M, hM⟩ : ∃ M, M = m1 + (m2 + nq) := ⟨_, rfl⟩
      rw [World.drewN_drewN, World.drewN_drewN, ← hM]
      clear hM HAl HAl2 HX x6 y6 hX1 hX2 hX hAm
      have RX : Row (w.drewN (M + 1)) g c n f := (H.out.bx.drewN (M + 1)).row H.out.wf n1 nc (by omega)
      have RY2 : Row (w.drewN (M + 1)) gy 1 1 (fun _ => v) := (H.out.bv.drewN (M + 1)).row (fun _ _ => H.out.wv) (Nat.le_refl _) (Nat.le_refl _) (by omega)
      have OG : Old (w.drewN (M + 1)) (.slice (some ⟨g, 0, none⟩) n c) g c := Or.inr ⟨n, f, rfl, H.out.bx.drewN (M + 1)⟩
      have HF := Lib.hid (H.out.fx.drewN (M + 1))
      have HFr : Hid (Fr w (w.drewN (M + 1)) b g) := Lib.hid ((Fr.refl w b g).drewN (M + 1))
      have hT : num f n * 2 ^ A = S1 * 2 ^ K := by rw [HAA.out]; exact H.out.m1.val
      have hU : num (fun _ => v) 1 * 2 ^ A = S2 * 2 ^ K := by rw [HAA.out, num_one, hA0]; exact H.out.m2.val
      have hle : num f n ≤ num (fun _ => v) 1 := (val_le hT hU).2 (by omega)
      have HA := Lib.hid (sub_any (.slice (some ⟨g, 0, none⟩) n c) g c gy 1 1 g c n (fun _ => v) f (w.drewN (M + 1)) OG RY2 RX (fun e => absurd e (Ne.symm H.out.gy')) (by omega) (num_len hle (fun _ _ => H.out.wv) n1 (top_ne H.out.m1 H.out.wf)) hle)
      have HV : Hid ((num (fun _ => v) 1 - num f n) * 2 ^ A = (S2 - S1) * 2 ^ K) := Lib.hid (val_sub hU hT)
      have HQ : Hid (∀ w2 g2 c2 k2, NatR (w.drewN (M + 1)) w2 (.slice (some ⟨g2, 0, none⟩) k2 c2) g c (1) (num (fun _ => v) 1 - num f n) → w2.cell? ⟨b, 5, none⟩ = some (.slice (some ⟨g, 0, none⟩) n c) ∧ w2.frozen? ⟨b, 5, none⟩ = false) := Lib.hid (fun w2 g2 c2 k2 hr => field_of HF.out H.out.bg hr)
      clear hT hU hle
      clear RX RY2 OG
      go_wp2_with fail
      go_region_with (go_at_call 53; refine HA.out.mono ?_; rintro e w2 ⟨r, rfl, g2, c2, k2, f2, rfl, hN2⟩; obtain ⟨h5, h6⟩ := HQ.out w2 g2 c2 k2 ⟨g2, c2, k2, f2, rfl, hN2⟩)
      all_goals
        go_wp2_with fail
        go_meet
        exact ⟨by rw [HqX.out], g2, c2, k2, Lib.hid (posts_of HF.out H.out.bg HFr.out (Or.inl ⟨rfl, rfl⟩) ⟨g2, c2, k2, f2, rfl, hN2⟩ (by omega) HV.out)⟩
    · have hA : A = A2 := by omega
      obtain ⟨d, hd⟩ : ∃ d, A1 - A2 = d := ⟨_, rfl⟩
      have q3 : X1 - X2 = (d : Int) := by omega
      have q4 : X2 < X1 := by omega
      have q5 : ¬ (X1 < X2) := by omega
      have qX : X = X2 := by omega
      have HqX := Lib.hid qX
      have HAA := Lib.hid hA
      clear qX hA
      obtain ⟨M, hM⟩ : ∃ M, M = m1 + (m2 + nq) := ⟨_, rfl⟩
      rw [World.drewN_drewN, World.drewN_drewN, ← hM]
      clear hM HAl HAl2 HX x6 y6 hX1 hX2 hX hAm
      have RG : Row (w.drewN M) g c n f := (H.out.bx.drewN M).row H.out.wf n1 nc (by omega)
      go_wp2_with fail
      refine (lsh_any 0 g c n d f (w.drewN M) RG (by omega) (by omega) (by omega)).mono ?_; rintro e w1 ⟨r, rfl, gt, ct, kt, ft, rfl, hN⟩
      obtain ⟨ht1, ht2, ht3, ht4, ht5, ht6, ht7, ht8, ht9⟩ := hN
      have kt1 : 1 ≤ kt := by
        rcases Nat.eq_zero_or_pos kt with e | e
        · subst e
          have hv := H.out.m1.pos.1
          have : 0 < num f n * 2 ^ d := Nat.mul_pos hv (Nat.two_pow_pos _)
          rw [← ht4] at this
          simp [num] at this
        · exact e
      have ktt : ft (kt - 1) ≠ 0 := by
        rcases ht5 with e | e
        · omega
        · exact e
      have hgt : w.heap.size ≤ gt ∧ ct ≤ d / 64 + n + 1 + 4 := by
        rcases ht7 with ⟨_, e⟩ | e
        · omega
        · rw [heap_drewN] at e; exact e
      have eg : w1.heap[g]? = w.heap[g]? := by rw [ht8 g (by rw [heap_drewN]; exact lg) (by omega), heap_drewN]
      have ey : w1.heap[gy]? = w.heap[gy]? := by rw [ht8 gy (by rw [heap_drewN]; exact lp) (by omega), heap_drewN]
      have eb : w1.heap[b]? = w.heap[b]? := by rw [ht8 b (by rw [heap_drewN]; exact lb) (by omega), heap_drewN]
      have ep : w1.heap[p]? = w.heap[p]? := by rw [ht8 p (by rw [heap_drewN]; exact lpp) (by omega), heap_drewN]
      have x5' : w1.cell? ⟨b, 5, none⟩ = some (.slice (some ⟨g, 0, none⟩) n c) := (cell_of_heap eb 5).trans x5
      have y5' : w1.cell? ⟨p, 5, none⟩ = some (.slice (some ⟨gy, 0, none⟩) 1 1) := (cell_of_heap ep 5).trans y5
      have kd : kt ≤ 113 := by omega
      have RX : Row w1 g c n f := (H.out.bx.of_eq (w' := w1) eg).row H.out.wf n1 nc (by omega)
      have RY2 : Row w1 gy 1 1 (fun _ => v) := (H.out.bv.of_eq (w' := w1) ey).row (fun _ _ => H.out.wv) (Nat.le_refl _) (Nat.le_refl _) (by omega)
      have RT : Row w1 gt ct kt ft := ht1.row ht2 kt1 ht3 (by omega)
      have OT : Old w1 (.slice (some ⟨gt, 0, none⟩) kt ct) gt ct := Or.inr ⟨kt, ft, rfl, ht1⟩
      have lsz : w.heap.size ≤ w1.heap.size := by
        have q := (ht9 0 (Nat.zero_le _) (Nat.zero_le _)).size
        rw [heap_drewN] at q; exact q
      have HF := Lib.hid (H.out.fx.of_eq (w' := w1) eb)
      have HFr : Hid (Fr w w1 b g) := Lib.hid ⟨fun k hk _ _ => by rw [ht8 k (by rw [heap_drewN]; exact hk) (by omega), heap_drewN], lsz, fun B h1 h2 h3 => (below_drewN (Below.refl B w) M).trans (ht9 B (by omega) (by rw [heap_drewN]; exact h3))⟩
      have hT : num ft kt * 2 ^ A = S1 * 2 ^ K := by
        rw [ht4, HAA.out, show A2 = A1 - d by omega]
        exact val_shift H.out.m1.val d (by omega)
      have hU : num (fun _ => v) 1 * 2 ^ A = S2 * 2 ^ K := by rw [HAA.out, num_one]; exact H.out.m2.val
      have hle : num ft kt ≤ num (fun _ => v) 1 := (val_le hT hU).2 (by omega)
      have HA := Lib.hid (sub_any (.slice (some ⟨gt, 0, none⟩) kt ct) gt ct gy 1 1 gt ct kt (fun _ => v) ft w1 OT RY2 RT (fun e => by omega) (by omega) (num_len hle (fun _ _ => H.out.wv) kt1 ktt) hle)
      have HV : Hid ((num (fun _ => v) 1 - num ft kt) * 2 ^ A = (S2 - S1) * 2 ^ K) := Lib.hid (val_sub hU hT)
      have HQ : Hid (∀ w2 g2 c2 k2, NatR w1 w2 (.slice (some ⟨g2, 0, none⟩) k2 c2) gt ct (1) (num (fun _ => v) 1 - num ft kt) → w2.cell? ⟨b, 5, none⟩ = some (.slice (some ⟨g, 0, none⟩) n c) ∧ w2.frozen? ⟨b, 5, none⟩ = false) := Lib.hid (fun w2 g2 c2 k2 hr => field_of HF.out (by omega) hr)
      clear x5 y5 hT hU hle
      clear RX RY2 RT OT ht1 ht2 ht3 ht4 ht5 ht6 ht7 ht8 ht9 eg eb ey ep
      go_wp2_with fail
      refine HA.out.mono ?_; rintro e w2 ⟨r, rfl, g2, c2, k2, f2, rfl, hN2⟩; obtain ⟨h5, h6⟩ := HQ.out w2 g2 c2 k2 ⟨g2, c2, k2, f2, rfl, hN2⟩
      go_wp2_with fail
      go_meet
      exact ⟨by rw [HqX.out], g2, c2, k2, Lib.hid (posts_of HF.out (by omega) HFr.out (Or.inr ⟨hgt.1, by omega⟩) ⟨g2, c2, k2, f2, rfl, hN2⟩ (by omega) HV.out)⟩
  case rest =>
    rename World => W3
    obtain ⟨rfl, g2, c2, k2, HP⟩ := hcut
    have hp2 := HP.out.1
    have k2b := HP.out.2.1
    have HG := Lib.hid HP.out.2.2.1
    have HFr := Lib.hid HP.out.2.2.2.1
    have HAlX := HAl
    clear HAlX HAl HAl2
    by_cases hS0 : S2 - S1 = 0
    · have k0 := HP.out.2.2.2.2.2.1 hS0
      obtain ⟨f3, hF3, hB3⟩ := HP.out.2.2.2.2.2.2
      rw [k0] at hF3
      have p5 := hF3.c5
      have p2 := hF3.c2
      have p3 := hF3.c3
      have p4 := hF3.c4
      have g2' := hF3.fr 2
      have g3' := hF3.fr 3
      have g4' := hF3.fr 4
      have HF4 := Lib.hid (((hF3.s2 0).s3 0).s4 false)
      have HB4 := Lib.hid (((hB3.of_eq (heap_set_far (Ne.symm hp2) 2 (.int .i8 0))).of_eq (heap_set_far (Ne.symm hp2) 3 (.int .u8 ((0 : Nat) : Int)))).of_eq (heap_set_far (Ne.symm hp2) 4 (.bool false)))
      have HFr4 := Lib.hid (((HFr.out.setB 2 (.int .i8 0)).setB 3 (.int .u8 ((0 : Nat) : Int))).setB 4 (.bool false))
      have HS0 := Lib.hid hS0
      clear hF3 hB3 k0 hS0 x5 x6 y5 y6
      go_wp2_with fail
      refine bodyPost_ret (results_none rfl _ _ _) rfl ?_
      exact ⟨rfl, g2, c2, Or.inr ⟨HS0.out, 0, f3, _, HF4.out, HB4.out⟩, HG.out, hp2, HFr4.out⟩
    · have HPr := Lib.hid (HP.out.2.2.2.2.1 hS0)
      have p5 := HPr.out.c5
      have k0 : ¬ (k2 = 0) := by
        obtain ⟨_, _, _, _, q, _⟩ := HPr.out
        omega
      have k0' : ¬ ((k2 : Int) = 0) := by omega
      have HS0 := Lib.hid hS0
      have HNm := Lib.hid (tail_norm (HPr.out.drewN 1) hp2 (by omega) hA63)
      have HEx : Hid (∀ W4 (s : Nat), s ≤ 63 → Mid K W4 b g2 c2 acc sx ((A1 + 64 * n : Nat) - (K : Int) - 1074) k2 (A - s) (S2 - S1) → Calls Tryz.prog 51 #[.pointer (some ⟨b, 0, none⟩), .int .i64 (X + (k2 : Int) * 64 - (s : Int)), .int .u64 0] W4 fun e w' => e = .returned (.tuple #[]) ∧ Fin K w' b g2 c2 0 sx (S2 - S1) ∧ Fr W4 w' b g2) := Lib.hid (fun W4 s hs hm => by
        obtain ⟨_, _, q, _⟩ := HX.out
        exact tail_exp hm hp2 (by omega) B (by have := H.out.sB; omega) H.out.hB _ (by omega))
      have ew : IntKind.i64.wrap ((k2 : Int) * 64) = (k2 : Int) * 64 := IntWalk.i64_in _ (by omega)
      have ew2 : IntKind.i64.wrap (X + (k2 : Int) * 64) = X + (k2 : Int) * 64 := IntWalk.i64_in _ (by omega)
      have ew3 : Hid (∀ s : Nat, s ≤ 63 → IntKind.i64.wrap (X + (k2 : Int) * 64 - (s : Int)) = X + (k2 : Int) * 64 - (s : Int)) := Lib.hid (fun s hs => IntWalk.i64_in _ (by omega))
      clear hS0 x5 x6 y5 y6
      go_wp2_with fail
      go_region_with (first | (go_at_call 52; refine HNm.out.mono ?_; rintro e w4 ⟨s, rfl, hs, hMid, hO⟩; have q5 := hMid.c5; have ew4 := ew3.out s hs) | (go_at_call 51; refine (HEx.out _ _ hs hMid).mono ?_; rintro e w5 ⟨rfl, hFin, hFr2⟩))
      all_goals
        refine bodyPost_end (results_none rfl _ _ _) rfl ?_
        exact ⟨rfl, g2, c2, Or.inl ⟨HS0.out, hFin⟩, HG.out, hp2, (fr_step (HFr.out.drewN 1) hO (HG.out.imp And.left And.left)).trans hFr2 (HG.out.imp And.left And.left)⟩
end Go.Proofs.YtmkdcnemocdefaaGreatFmt
