/- uadd. -/
import Derived.Test.YtmkdcnemocdefaaGreatFmtFlo5
namespace Go.Proofs.YtmkdcnemocdefaaGreatFmt
open Go.RowKit

set_option maxRecDepth 20000 in
set_option maxHeartbeats 8000000 in
theorem uadd_any {K B : Nat} {w : World} {b g c n p gy : Nat} {acc ay : Int} {sx sy : Bool} {f : Nat → Nat} {v A1 A2 S1 S2 : Nat} (h : Pair K B w b g c n p gy acc ay sx sy f v A1 A2 S1 S2) :
    Calls Tryz.prog 33 #[.pointer (some ⟨b, 0, none⟩), .pointer (some ⟨b, 0, none⟩), .pointer (some ⟨p, 0, none⟩)] w fun e w' => e = .returned (.tuple #[]) ∧ SumR K w w' b g c sx (S1 + S2) := by
  have ⟨n1, s1, s2, t1, t2, u1, u2⟩ := h.nums
  have H := Lib.hid h
  have x5 := h.fx.c5
  have x6 := h.fx.c6
  have y5 := h.fy.c5
  have y6 := h.fy.c6
  have n38 := h.n38
  have hK := h.hK
  have nc := h.nc
  have hc := h.c3
  have lg : g < w.heap.size := h.bx.lt
  have lb : b < w.heap.size := h.fx.lt
  have lp : gy < w.heap.size := h.bv.lt
  have lpp : p < w.heap.size := h.fy.lt
  obtain ⟨E1, hE1⟩ : ∃ E : Int, E = ((A1 + 64 * n : Nat) - (K : Int) - 1074) := ⟨_, rfl⟩
  obtain ⟨E2, hE2⟩ : ∃ E : Int, E = ((A2 + 64 * 1 : Nat) - (K : Int) - 1074) := ⟨_, rfl⟩
  obtain ⟨X1, hX1⟩ : ∃ E : Int, E = (A1 : Int) - (K : Int) - 1074 := ⟨_, rfl⟩
  obtain ⟨X2, hX2⟩ : ∃ E : Int, E = (A2 : Int) - (K : Int) - 1074 := ⟨_, rfl⟩
  obtain ⟨A, hAm⟩ : ∃ A, A = min A1 A2 := ⟨_, rfl⟩
  obtain ⟨X, hX⟩ : ∃ E : Int, E = (A : Int) - (K : Int) - 1074 := ⟨_, rfl⟩
  rw [← hE1] at x6
  rw [← hE2] at y6
  have q1 : E1 - (n : Int) * 64 = X1 := by omega
  have q2 : E2 - 64 = X2 := by omega
  have hx1 : -20000 ≤ X1 ∧ X1 ≤ 20000 := by omega
  have hx2 : -20000 ≤ X2 ∧ X2 ≤ 20000 := by omega
  have hx : -20000 ≤ X ∧ X ≤ 20000 := by omega
  have he1 : -20000 ≤ E1 ∧ E1 ≤ 20000 := by omega
  have he2 : -20000 ≤ E2 ∧ E2 ≤ 20000 := by omega
  have hA63 : 63 ≤ A := by omega
  have HX := Lib.hid (And.intro hX1 (And.intro hX2 (And.intro hX hAm)))
  clear hE1 hE2 hX1 hX2 hX hAm h
  have HAl : Hid (∀ a m, Calls Tryz.prog 48 #[.slice (some ⟨g, 0, none⟩) n c, .slice (some ⟨g, 0, none⟩) n c] (w.drewN (a + m)) fun e w' => e = .returned (.bool true) ∧ ∃ k, w' = w.drewN (a + k)) := Lib.hid (fun a m => (alias_same g n c (by omega) (by omega) (w.drewN (a + m))).mono (fun e w' ⟨h1, k, h2⟩ => ⟨h1, m + k, by rw [h2, World.drewN_drewN, Nat.add_assoc]⟩))
  go_enter Tryz.func33, Tryz.ntmps33
  go_wp2_with fail
  go_quiet (fail)
  rename Nat => m1
  go_wp2_with fail
  go_quiet (fail)
  rename Nat => m2
  go_wp2_with fail
  go_quiet (first | (go_at_call 48; exact HAl.out _ _))
  go_upto_block 0 with (fail)
  go_cut [6, 9, 10] (fun x6' _ _ wx => x6' = .int .i64 X ∧ ∃ g2 c2 k2, Hid (Post K w wx b g c g2 c2 k2 acc sx ((A1 + 64 * n : Nat) - (K : Int) - 1074) A (S1 + S2)))
  case first =>
    obtain ⟨hX1, hX2, hX, hAm⟩ := HX.out
    rcases Nat.lt_trichotomy A1 A2 with hA0 | hA0 | hA0
    · have hA : A = A1 := by omega
      obtain ⟨d, hd⟩ : ∃ d, A2 - A1 = d := ⟨_, rfl⟩
      have q3 : X2 - X1 = (d : Int) := by omega
      have q4 : X1 < X2 := by omega
      have qX : X = X1 := by omega
      have HqX := Lib.hid qX
      have HAA := Lib.hid hA
      clear qX hA
      obtain ⟨M, hM⟩ : ∃ M, M = m1 + (m2 + nq) := ⟨_, rfl⟩
      rw [World.drewN_drewN, World.drewN_drewN, ← hM]
      clear hM HAl HX x6 y6 hX1 hX2 hX hAm
      have RY : Row (w.drewN M) gy 1 1 (fun _ => v) := (H.out.bv.drewN M).row (fun _ _ => H.out.wv) (Nat.le_refl _) (Nat.le_refl _) (by omega)
      go_wp2_with fail
      refine (lsh_any 0 gy 1 1 d (fun _ => v) (w.drewN M) RY (by omega) (by omega) (by omega)).mono ?_; rintro e w1 ⟨r, rfl, gt, ct, kt, ft, rfl, hN⟩
      rw [num_one] at hN
      obtain ⟨ht1, ht2, ht3, ht4, ht5, ht6, ht7, ht8, ht9⟩ := hN
      have kt1 : 1 ≤ kt := by
        rcases Nat.eq_zero_or_pos kt with e | e
        · subst e
          have hv := H.out.m2.pos.1
          have : 0 < v * 2 ^ d := Nat.mul_pos hv (Nat.two_pow_pos _)
          rw [← ht4] at this
          simp [num] at this
        · exact e
      have hgt : w.heap.size ≤ gt ∧ ct ≤ d / 64 + 1 + 1 + 4 := by
        rcases ht7 with ⟨_, e⟩ | e
        · omega
        · rw [heap_drewN] at e; exact e
      have eg : w1.heap[g]? = w.heap[g]? := by rw [ht8 g (by rw [heap_drewN]; exact lg) (by omega), heap_drewN]
      have ey : w1.heap[gy]? = w.heap[gy]? := by rw [ht8 gy (by rw [heap_drewN]; exact lp) (by omega), heap_drewN]
      have eb : w1.heap[b]? = w.heap[b]? := by rw [ht8 b (by rw [heap_drewN]; exact lb) (by omega), heap_drewN]
      have ep : w1.heap[p]? = w.heap[p]? := by rw [ht8 p (by rw [heap_drewN]; exact lpp) (by omega), heap_drewN]
      have x5' : w1.cell? ⟨b, 5, none⟩ = some (.slice (some ⟨g, 0, none⟩) n c) := (cell_of_heap eb 5).trans x5
      have y5' : w1.cell? ⟨p, 5, none⟩ = some (.slice (some ⟨gy, 0, none⟩) 1 1) := (cell_of_heap ep 5).trans y5
      have kd : kt ≤ 113 := by omega
      have RX : Row w1.drew g c n f := (H.out.bx.of_eq (w' := w1.drew) eg).row H.out.wf n1 nc (by omega)
      have RY2 : Row w1.drew gy 1 1 (fun _ => v) := (H.out.bv.of_eq (w' := w1.drew) ey).row (fun _ _ => H.out.wv) (Nat.le_refl _) (Nat.le_refl _) (by omega)
      have RT : Row w1.drew gt ct kt ft := (ht1.drewN 1).row ht2 kt1 ht3 (by omega)
      have OG : Old w1.drew (.slice (some ⟨g, 0, none⟩) n c) g c := Or.inr ⟨n, f, rfl, H.out.bx.of_eq (w' := w1.drew) eg⟩
      have OT : Old w1.drew (.slice (some ⟨gt, 0, none⟩) kt ct) gt ct := Or.inr ⟨kt, ft, rfl, ht1.drewN 1⟩
      have lsz : w.heap.size ≤ w1.heap.size := by
        have q := (ht9 0 (Nat.zero_le _) (Nat.zero_le _)).size
        rw [heap_drewN] at q; exact q
      have HF := Lib.hid (H.out.fx.of_eq (w' := w1.drew) eb)
      have HFr : Hid (Fr w w1.drew b g) := Lib.hid ⟨fun k hk _ _ => by rw [show w1.drew.heap[k]? = w1.heap[k]? from rfl, ht8 k (by rw [heap_drewN]; exact hk) (by omega), heap_drewN], lsz, fun B h1 h2 h3 => (below_drewN (Below.refl B w) M).trans ((ht9 B (by omega) (by rw [heap_drewN]; exact h3)).drew)⟩
      have HA := Lib.hid (add_any (.slice (some ⟨g, 0, none⟩) n c) g c g c n gt ct kt f ft w1.drew OG RX RT (fun _ => rfl) (fun e => by omega) (by omega))
      have HV : Hid ((num f n + num ft kt) * 2 ^ A = (S1 + S2) * 2 ^ K) := Lib.hid (by
        rw [ht4, ← hd, HAA.out]
        exact val_add H.out.m1.val H.out.m2.val (by omega))
      have HQ : Hid (∀ w2 g2 c2 k2, NatR w1.drew w2 (.slice (some ⟨g2, 0, none⟩) k2 c2) g c (max n kt + 1) (num f n + num ft kt) → w2.cell? ⟨b, 5, none⟩ = some (.slice (some ⟨g, 0, none⟩) n c) ∧ w2.frozen? ⟨b, 5, none⟩ = false) := Lib.hid (fun w2 g2 c2 k2 hr => field_of HF.out H.out.bg hr)
      clear x5 y5
      clear RX RY2 RT OG OT ht1 ht2 ht3 ht4 ht5 ht6 ht7 ht8 ht9 eg eb ey ep
      go_wp2_with fail
      go_region_with (go_at_call 50; refine HA.out.mono ?_; rintro e w2 ⟨r, rfl, g2, c2, k2, f2, rfl, hN2⟩; obtain ⟨h5, h6⟩ := HQ.out w2 g2 c2 k2 ⟨g2, c2, k2, f2, rfl, hN2⟩)
      all_goals
        go_wp2_with fail
        go_meet
        exact ⟨by rw [HqX.out], g2, c2, k2, Lib.hid (post_of HF.out H.out.bg HFr.out ⟨g2, c2, k2, f2, rfl, hN2⟩ (by omega) HV.out (by omega))⟩
    · have hA : A = A1 := by omega
      have qX : X = X1 := by omega
      have q4 : ¬ (X1 < X2) := by omega
      have q5 : ¬ (X2 < X1) := by omega
      have HqX := Lib.hid qX
      have HAA := Lib.hid hA
      clear qX hA
      obtain ⟨M, hM⟩ : ∃ M, M = m1 + (m2 + nq) := ⟨_, rfl⟩
      rw [World.drewN_drewN, World.drewN_drewN, ← hM]
      clear hM HAl HX x6 y6 hX1 hX2 hX hAm
      have RX : Row (w.drewN (M + 1)) g c n f := (H.out.bx.drewN (M + 1)).row H.out.wf n1 nc (by omega)
      have RY2 : Row (w.drewN (M + 1)) gy 1 1 (fun _ => v) := (H.out.bv.drewN (M + 1)).row (fun _ _ => H.out.wv) (Nat.le_refl _) (Nat.le_refl _) (by omega)
      have OG : Old (w.drewN (M + 1)) (.slice (some ⟨g, 0, none⟩) n c) g c := Or.inr ⟨n, f, rfl, H.out.bx.drewN (M + 1)⟩
      have HF := Lib.hid (H.out.fx.drewN (M + 1))
      have HFr : Hid (Fr w (w.drewN (M + 1)) b g) := Lib.hid ((Fr.refl w b g).drewN (M + 1))
      have HA := Lib.hid (add_any (.slice (some ⟨g, 0, none⟩) n c) g c g c n gy 1 1 f (fun _ => v) (w.drewN (M + 1)) OG RX RY2 (fun _ => rfl) (fun e => absurd e (Ne.symm H.out.gy')) (by omega))
      have HV : Hid ((num f n + num (fun _ => v) 1) * 2 ^ A = (S1 + S2) * 2 ^ K) := Lib.hid (by
        rw [HAA.out, num_one, Nat.add_mul, H.out.m1.val, show A1 = A2 by omega, H.out.m2.val, Nat.add_mul])
      have HQ : Hid (∀ w2 g2 c2 k2, NatR (w.drewN (M + 1)) w2 (.slice (some ⟨g2, 0, none⟩) k2 c2) g c (max n 1 + 1) (num f n + num (fun _ => v) 1) → w2.cell? ⟨b, 5, none⟩ = some (.slice (some ⟨g, 0, none⟩) n c) ∧ w2.frozen? ⟨b, 5, none⟩ = false) := Lib.hid (fun w2 g2 c2 k2 hr => field_of HF.out H.out.bg hr)
      clear RX RY2 OG
      go_wp2_with fail
      go_region_with (go_at_call 50; refine HA.out.mono ?_; rintro e w2 ⟨r, rfl, g2, c2, k2, f2, rfl, hN2⟩; obtain ⟨h5, h6⟩ := HQ.out w2 g2 c2 k2 ⟨g2, c2, k2, f2, rfl, hN2⟩)
      all_goals
        go_wp2_with fail
        go_meet
        exact ⟨by rw [HqX.out], g2, c2, k2, Lib.hid (post_of HF.out H.out.bg HFr.out ⟨g2, c2, k2, f2, rfl, hN2⟩ (by omega) HV.out (by omega))⟩
    · have hA : A = A2 := by omega
      obtain ⟨d, hd⟩ : ∃ d, A1 - A2 = d := ⟨_, rfl⟩
      have q3 : X1 - X2 = (d : Int) := by omega
      have q4 : X2 < X1 := by omega
      have q5 : ¬ (X1 < X2) := by omega
      have qX : X = X2 := by omega
      have HqX := Lib.hid qX
      have HAA := Lib.hid hA
      clear qX hA
      obtain ⟨M, hM⟩ : ∃ M, M = m1 + (m2 + nq) := ⟨_, rfl⟩
      rw [World.drewN_drewN, World.drewN_drewN, ← hM]
      clear hM HAl HX x6 y6 hX1 hX2 hX hAm
      have RG : Row (w.drewN M) g c n f := (H.out.bx.drewN M).row H.out.wf n1 nc (by omega)
      go_wp2_with fail
      refine (lsh_any 0 g c n d f (w.drewN M) RG (by omega) (by omega) (by omega)).mono ?_; rintro e w1 ⟨r, rfl, gt, ct, kt, ft, rfl, hN⟩
      obtain ⟨ht1, ht2, ht3, ht4, ht5, ht6, ht7, ht8, ht9⟩ := hN
      have kt1 : 1 ≤ kt := by
        rcases Nat.eq_zero_or_pos kt with e | e
        · subst e
          have hv := H.out.m1.pos.1
          have : 0 < num f n * 2 ^ d := Nat.mul_pos hv (Nat.two_pow_pos _)
          rw [← ht4] at this
          simp [num] at this
        · exact e
      have hgt : w.heap.size ≤ gt ∧ ct ≤ d / 64 + n + 1 + 4 := by
        rcases ht7 with ⟨_, e⟩ | e
        · omega
        · rw [heap_drewN] at e; exact e
      have eg : w1.heap[g]? = w.heap[g]? := by rw [ht8 g (by rw [heap_drewN]; exact lg) (by omega), heap_drewN]
      have ey : w1.heap[gy]? = w.heap[gy]? := by rw [ht8 gy (by rw [heap_drewN]; exact lp) (by omega), heap_drewN]
      have eb : w1.heap[b]? = w.heap[b]? := by rw [ht8 b (by rw [heap_drewN]; exact lb) (by omega), heap_drewN]
      have ep : w1.heap[p]? = w.heap[p]? := by rw [ht8 p (by rw [heap_drewN]; exact lpp) (by omega), heap_drewN]
      have x5' : w1.cell? ⟨b, 5, none⟩ = some (.slice (some ⟨g, 0, none⟩) n c) := (cell_of_heap eb 5).trans x5
      have y5' : w1.cell? ⟨p, 5, none⟩ = some (.slice (some ⟨gy, 0, none⟩) 1 1) := (cell_of_heap ep 5).trans y5
      have kd : kt ≤ 113 := by omega
      have RX : Row w1.drew g c n f := (H.out.bx.of_eq (w' := w1.drew) eg).row H.out.wf n1 nc (by omega)
      have RY2 : Row w1.drew gy 1 1 (fun _ => v) := (H.out.bv.of_eq (w' := w1.drew) ey).row (fun _ _ => H.out.wv) (Nat.le_refl _) (Nat.le_refl _) (by omega)
      have RT : Row w1.drew gt ct kt ft := (ht1.drewN 1).row ht2 kt1 ht3 (by omega)
      have OG : Old w1.drew (.slice (some ⟨g, 0, none⟩) n c) g c := Or.inr ⟨n, f, rfl, H.out.bx.of_eq (w' := w1.drew) eg⟩
      have OT : Old w1.drew (.slice (some ⟨gt, 0, none⟩) kt ct) gt ct := Or.inr ⟨kt, ft, rfl, ht1.drewN 1⟩
      have lsz : w.heap.size ≤ w1.heap.size := by
        have q := (ht9 0 (Nat.zero_le _) (Nat.zero_le _)).size
        rw [heap_drewN] at q; exact q
      have HF := Lib.hid (H.out.fx.of_eq (w' := w1.drew) eb)
      have HFr : Hid (Fr w w1.drew b g) := Lib.hid ⟨fun k hk _ _ => by rw [show w1.drew.heap[k]? = w1.heap[k]? from rfl, ht8 k (by rw [heap_drewN]; exact hk) (by omega), heap_drewN], lsz, fun B h1 h2 h3 => (below_drewN (Below.refl B w) M).trans ((ht9 B (by omega) (by rw [heap_drewN]; exact h3)).drew)⟩
      have HA := Lib.hid (add_any (.slice (some ⟨g, 0, none⟩) n c) g c gt ct kt gy 1 1 ft (fun _ => v) w1.drew OG RT RY2 (fun e => by omega) (fun e => absurd e (Ne.symm H.out.gy')) (by omega))
      have HV : Hid ((num ft kt + num (fun _ => v) 1) * 2 ^ A = (S1 + S2) * 2 ^ K) := Lib.hid (by
        rw [ht4, ← hd, HAA.out, num_one, Nat.add_comm (num f n * _), Nat.add_comm S1]
        exact val_add H.out.m2.val H.out.m1.val (by omega))
      have HQ : Hid (∀ w2 g2 c2 k2, NatR w1.drew w2 (.slice (some ⟨g2, 0, none⟩) k2 c2) g c (max kt 1 + 1) (num ft kt + num (fun _ => v) 1) → w2.cell? ⟨b, 5, none⟩ = some (.slice (some ⟨g, 0, none⟩) n c) ∧ w2.frozen? ⟨b, 5, none⟩ = false) := Lib.hid (fun w2 g2 c2 k2 hr => field_of HF.out H.out.bg hr)
      clear x5 y5
      clear RX RY2 RT OG OT ht1 ht2 ht3 ht4 ht5 ht6 ht7 ht8 ht9 eg eb ey ep
      go_wp2_with fail
      go_region_with (go_at_call 50; refine HA.out.mono ?_; rintro e w2 ⟨r, rfl, g2, c2, k2, f2, rfl, hN2⟩; obtain ⟨h5, h6⟩ := HQ.out w2 g2 c2 k2 ⟨g2, c2, k2, f2, rfl, hN2⟩)
      all_goals
        go_wp2_with fail
        go_meet
        exact ⟨by rw [HqX.out], g2, c2, k2, Lib.hid (post_of HF.out H.out.bg HFr.out ⟨g2, c2, k2, f2, rfl, hN2⟩ (by omega) HV.out (by omega))⟩
  case rest =>
    rename World => W3
    obtain ⟨rfl, g2, c2, k2, HP⟩ := hcut
    have hp2 := HP.out.2.1
    have k2b := HP.out.2.2.1
    have p5 := HP.out.1.c5
    have HNm := Lib.hid (tail_norm (HP.out.1.drewN 1) hp2 (by omega) hA63)
    have HEx : Hid (∀ W4 (s : Nat), s ≤ 63 → Mid K W4 b g2 c2 acc sx ((A1 + 64 * n : Nat) - (K : Int) - 1074) k2 (A - s) (S1 + S2) → Calls Tryz.prog 51 #[.pointer (some ⟨b, 0, none⟩), .int .i64 (X + (k2 : Int) * 64 - (s : Int)), .int .u64 0] W4 fun e w' => e = .returned (.tuple #[]) ∧ Fin K w' b g2 c2 0 sx (S1 + S2) ∧ Fr W4 w' b g2) := Lib.hid (fun W4 s hs hm => by
      obtain ⟨_, _, q, _⟩ := HX.out
      exact tail_exp hm hp2 (by omega) B H.out.sB H.out.hB _ (by omega))
    have ew : IntKind.i64.wrap ((k2 : Int) * 64) = (k2 : Int) * 64 := IntWalk.i64_in _ (by omega)
    have ew2 : IntKind.i64.wrap (X + (k2 : Int) * 64) = X + (k2 : Int) * 64 := IntWalk.i64_in _ (by omega)
    have ew3 : Hid (∀ s : Nat, s ≤ 63 → IntKind.i64.wrap (X + (k2 : Int) * 64 - (s : Int)) = X + (k2 : Int) * 64 - (s : Int)) := Lib.hid (fun s hs => IntWalk.i64_in _ (by omega))
    clear HAl
    go_wp2_with fail
    go_region_with (first | (go_at_call 52; refine HNm.out.mono ?_; rintro e w4 ⟨s, rfl, hs, hMid, hO⟩; have q5 := hMid.c5; have ew4 := ew3.out s hs) | (go_at_call 51; refine (HEx.out _ _ hs hMid).mono ?_; rintro e w5 ⟨rfl, hFin, hFr2⟩))
    all_goals
      refine bodyPost_end (results_none rfl _ _ _) rfl ?_
      exact ⟨rfl, g2, c2, hFin, HP.out.2.2.2.1, (fr_step (HP.out.2.2.2.2.drewN 1) hO (HP.out.2.2.2.1.imp And.left And.left)).trans hFr2 (HP.out.2.2.2.1.imp And.left And.left)⟩
end Go.Proofs.YtmkdcnemocdefaaGreatFmt
