/- round to at most 53 bits. -/
import Derived.Test.YtmkdcnemocdefaaGreatFmtRnd0
import Derived.Test.YtmkdcnemocdefaaGreatFmtFrz
namespace Go.Proofs.YtmkdcnemocdefaaGreatFmt
open Go.RowKit

/-- Behind the cut: one word is left. -/
def Cut1 (w wx : World) (r g c p : Nat) (neg : Bool) (ex : Int) (f0 : Nat) : Prop :=
  ∃ f, Flt wx r p 0 1 neg (.slice (some ⟨g, 0, none⟩) 1 c) ex ∧ Blk wx g c f ∧ f 0 = f0 ∧ Fr w wx r g
/-- Rounded. -/
def Rnd1 (w wx : World) (r g c p : Nat) (neg : Bool) (E : Int) (W : Nat) : Prop :=
  ∃ f acc, Flt wx r p acc 1 neg (.slice (some ⟨g, 0, none⟩) 1 c) E ∧ Blk wx g c f ∧ f 0 = W ∧ Fr w wx r g

set_option maxRecDepth 20000 in
set_option maxHeartbeats 8000000 in
theorem round_p (r g n c p : Nat) (acc ex : Int) (neg : Bool) (f : Nat → Nat) (w : World) (h : Flt w r p acc 1 neg (.slice (some ⟨g, 0, none⟩) n c) ex) (hb : Blk w g c f) (hne : r ≠ g) (hn1 : 1 ≤ n) (hn : n ≤ 100000) (hc : n ≤ c) (hf : Wds f n) (hp1 : 1 ≤ p) (hp : p ≤ 53) (ht : 9223372036854775808 ≤ f (n - 1)) (hex : -100000 ≤ ex ∧ ex ≤ 100000) :
    Calls Tryz.prog 30 #[.pointer (some ⟨r, 0, none⟩), .int .u64 0] w fun e w' => e = .returned (.tuple #[]) ∧ ∃ (W : Nat) (E : Int), RndW (keptQ (num f n) (64 * n - p)) p (64 - p) W ex E ∧ Rnd1 w w' r g c p neg E W := by
  have c0 := h.c0
  have c1 := h.c1
  have c2 := h.c2
  have c3 := h.c3
  have c5 := h.c5
  have f2 := h.fr 2
  have f5 := h.fr 5
  obtain ⟨k, hk⟩ : ∃ k, 64 * n - p - 1 = k := ⟨_, rfl⟩
  have HB : Hid (∀ W, W.heap[g]? = w.heap[g]? → Calls Tryz.prog 43 #[.slice (some ⟨g, 0, none⟩) n c, .int .u64 (k : Int)] W fun e w' => e = .returned (.int .u64 ((num f n / 2 ^ k % 2 : Nat) : Int)) ∧ w' = W) := Lib.hid (fun W hW =>
    bit_any g c n k f W (fun j hj => by rw [Nat.zero_add, cell_of_heap hW]; exact hb.cell j (by omega)) hf (by omega) (by omega))
  have HS : Hid (∀ W, W.heap[g]? = w.heap[g]? → Calls Tryz.prog 40 #[.slice (some ⟨g, 0, none⟩) n c, .int .u64 (k : Int)] W fun e w' => e = .returned (.int .u64 (stk (num f n) k : Int)) ∧ w' = W) := Lib.hid (fun W hW =>
    sticky_any g c n k f W (fun j hj => by rw [Nat.zero_add, cell_of_heap hW]; exact hb.cell j (by omega)) hf (by omega) (by omega) (by omega))
  obtain ⟨rb, hrb⟩ : ∃ rb, num f n / 2 ^ k % 2 = rb := ⟨_, rfl⟩
  have hrb2 : rb = 0 ∨ rb = 1 := by omega
  obtain ⟨st, hst⟩ : ∃ st, stk (num f n) k = st := ⟨_, rfl⟩
  have hst2 : st = 0 ∨ st = 1 := by rw [← hst]; unfold stk; split <;> simp
  rw [hrb] at HB
  rw [hst] at HS
  have a1 : bits .and .u64 1 1 = 1 := by decide +kernel
  have a0 : bits .and .u64 0 1 = 0 := by decide +kernel
  have o00 : bits .or .u64 0 0 = 0 := by decide +kernel
  have o01 : bits .or .u64 0 1 = 1 := by decide +kernel
  have o10 : bits .or .u64 1 0 = 1 := by decide +kernel
  have o11 : bits .or .u64 1 1 = 1 := by decide +kernel
  have ek : (n : Int) * 64 - (p : Int) - 1 = (k : Int) := by omega
  have d1 : ¬ ((n : Int) * 64 ≤ (p : Int)) := by omega
  have en : ((p : Int) + 63) / 64 = 1 := by omega
  have en2 : ((p : Int) + 63).tdiv 64 = 1 := by rw [Int.tdiv_eq_ediv_of_nonneg (by omega)]; exact en
  obtain ⟨z, hz⟩ : ∃ z, 64 - p = z := ⟨_, rfl⟩
  have ez : 64 - (p : Int) = (z : Int) := by omega
  have hf0w := hf (n - 1) (by omega)
  have HQ : Hid (keptQ (num f n) (64 * n - p) = if num f n / 2 ^ k % 2 = 1 ∧ (stk (num f n) k = 1 ∨ f (n - 1) / 2 ^ z % 2 = 1) then f (n - 1) / 2 ^ z + 1 else f (n - 1) / 2 ^ z) := Lib.hid (by
    have a := kept_bits (num f n) k
    have b := num_head f n p hn1 (by omega) hf
    rw [show k + 1 = 64 * n - p by omega, b, hz] at a
    exact a)
  rw [hrb, hst] at HQ
  generalize keptQ (num f n) (64 * n - p) = qq at *
  have eL : IntKind.u64.wrap (2 ^ z) = ((2 ^ z : Nat) : Int) := by
    have p63 : (2 : Nat) ^ z ≤ 2 ^ 63 := Nat.pow_le_pow_right (by decide) (by omega)
    rw [show (2 : Int) ^ z = ((2 ^ z : Nat) : Int) by simp]
    generalize (2 : Nat) ^ z = L at *
    exact IntWalk.u64_in _ (by omega)
  have hL0 : 0 < (2 : Nat) ^ z := Nat.two_pow_pos z
  have hL2 : (2 : Nat) ^ z ≤ 2 ^ 63 := Nat.pow_le_pow_right (by decide) (by omega)
  have hA : ∀ v : Nat, v < 18446744073709551616 → bits .and .u64 (v : Int) ((2 ^ z : Nat) : Int) = ((v / 2 ^ z % 2 * 2 ^ z : Nat) : Int) := fun v hv => by
    have r := and_bit v z hv (by omega)
    rw [show ((2 ^ z : Nat) : Int) = (2 : Int) ^ z by simp]; exact r
  have hN : ∀ v : Nat, v < 18446744073709551616 → bits .andNot .u64 (v : Int) (((2 ^ z : Nat) : Int) - 1) = ((v / 2 ^ z * 2 ^ z : Nat) : Int) := fun v hv => by
    have r := andNot_low v z hv (by omega)
    rw [show ((2 ^ z : Nat) : Int) = (2 : Int) ^ z by simp]; exact r
  have WK := Lib.hid (fun v hv => word_keep (f0 := v) hp hz hv ex)
  have WU := Lib.hid (fun v hv => word_up (f0 := v) hp hz hv ex)
  have WO := Lib.hid (fun v h1 h2 => word_over (f0 := v) hp hz h1 h2 hp1 ex)
  rw [hz]
  obtain ⟨L, hL⟩ : ∃ L, 2 ^ z = L := ⟨_, rfl⟩
  simp only [hL] at eL hL0 hL2 hA hN WK WU WO HQ
  have HF := Lib.hid (h.s2 0)
  have HBl := Lib.hid (hb.of_eq (w' := w.setCell ⟨r, 2, none⟩ (.int .i8 0)) (heap_set_far (Ne.symm hne) _ _))
  have HFr := Lib.hid ((Fr.refl w r g).setB 2 (.int .i8 0))
  obtain ⟨f0, hf0⟩ : ∃ f0, f (n - 1) = f0 := ⟨_, rfl⟩
  rw [hf0] at hf0w HQ
  have HC1 : Hid (n = 1 → Cut1 w (w.setCell ⟨r, 2, none⟩ (.int .i8 0)) r g c p neg ex f0) := Lib.hid (fun e => by subst e; exact ⟨f, HF.out, HBl.out, hf0, HFr.out⟩)
  have HACC : Hid (∀ (a : Bool) (W : World), Calls Tryz.prog 29 #[.bool a] W fun e w' => ∃ v : Int, e = .returned (.int .i8 v) ∧ w' = W) := Lib.hid (fun a W => (makeAcc_any a W).mono fun e w' h => ⟨_, h⟩)
  clear h hb hf
  rcases hrb2 with rfl | rfl
  · rcases hst2 with rfl | rfl
    · go_enter Tryz.func30, Tryz.ntmps30
      go_wp2_with fail
      refine (HB.out _ (heap_set_far (Ne.symm hne) _ _)).mono ?_; rintro e w1 ⟨rfl, rfl⟩
      go_wp2_with fail
      refine (HS.out _ (heap_set_far (Ne.symm hne) _ _)).mono ?_; rintro e w1 ⟨rfl, rfl⟩
      go_upto_if 80 with (fail)
      go_cut [] (fun wx => Hid (Cut1 w wx r g c p neg ex f0))
      case first =>
        rcases Nat.eq_or_lt_of_le hn1 with e1 | e1
        · have HC := Lib.hid (HC1.out e1.symm)
          clear HC1
          subst e1
          go_wp2
          go_meet
          exact HC
        · have d2 : (1 : Int) < (n : Int) := by omega
          have en1 : (n : Int) - 1 = ((n - 1 : Nat) : Int) := by omega
          have d3 : (1 : Int) ≤ (c : Int) := by omega
          obtain ⟨a2, ea2, s2⟩ := slice_fromK .u32 34 Tryz.underlying34 g 0 n c (n - 1) (by omega)
          obtain rfl : a2 = ⟨g, n - 1, none⟩ := by have := ea2 (by omega); rw [Nat.zero_add] at this; exact this
          rw [show n - (n - 1) = 1 by omega] at s2
          obtain ⟨w3, hr2, hb2, ho2⟩ := copy_words 34 Tryz.underlying34 3 g 0 n c g (n - 1) 1 (c - (n - 1)) 1 c (fun i => f (n - 1 + i)) f (w.setCell ⟨r, 2, none⟩ (.int .i8 0)).drew (HBl.out.drewN 1) (fun j hj => (HBl.out.drewN 1).cell (n - 1 + j) (by omega)) (by show 1 = min 1 n; omega) (by omega)
          have HF3 := Lib.hid ((HF.out.drewN 1).of_eq (ho2.2.1 r hne))
          have HFr3 := Lib.hid ((HFr.out.drewN 1).only ho2)
          have HB3 := Lib.hid hb2
          clear ho2 hb2 ea2 HC1
          go_wp2_with fail
          have ew : IntKind.u32.wrap (((n - 1 : Nat) : Int)) = ((n - 1 : Nat) : Int) := IntWalk.u32_in _ (by omega)
          go_region_law (refine step_copy_eq (by rfl) (.tmp 84) (.tmp 92) 34 34 (by rfl) (.slice (some ⟨g, 0, none⟩) n c) (.slice (some ⟨g, n - 1, none⟩) 1 (c - (n - 1))) (by simp [Act.eval, Act.put]) (by simp [Act.eval, Act.put]) hr2 ?_)
          all_goals
            go_simp
            have q5 := HF3.out.c5
            have qf := HF3.out.fr 5
            clear c0 c1 c2 c3 c5 f2 f5
            go_wp2_with fail
            go_meet
            refine Lib.hid ⟨_, HF3.out.s5 _, HB3.out.of_eq (heap_set_far (Ne.symm hne) _ _), ?_, HFr3.out.setB _ _⟩
            rw [put0_in f 1 _ 0 (by omega), Nat.add_zero]
            exact hf0
      case rest =>
        obtain ⟨f1, hF1, hB1, hf1, hR1⟩ := hcut.out
        have q0 := hF1.c0
        have q1 := hF1.c1
        have q2 := hF1.c2
        have q4 := hF1.c4
        have q5 := hF1.c5
        have q6 := hF1.c6
        have k2 := hF1.fr 2
        have k6 := hF1.fr 6
        have b0 := hB1.cell 0 (by omega)
        have g0 := hB1.frozen 0
        rw [hf1] at b0
        clear hcut c0 c1 c2 c3 c5 f2 f5
        have HF1 := Lib.hid hF1
        have HB1 := Lib.hid hB1
        have HR1 := Lib.hid hR1
        have Hf1 := Lib.hid hf1
        clear hF1 hB1 hR1 hf1 HB HS HC1 hrb hst
        have eN := hN f0 hf0w
        clear hN hA
        go_wp2_with fail
        refine bodyPost_end (results_none rfl _ _ _) rfl ?_
        refine ⟨rfl, f0 / L * L, ex, ?_, _, _, HF1.out.of_eq (heap_set_far hne _ _), HB1.out.set 0 _, upd_same _ _ _, HR1.out.setG _ _⟩
        rw [show qq = f0 / L by have := HQ.out; simpa using this]
        exact WK.out f0 hf0w
    · go_enter Tryz.func30, Tryz.ntmps30
      go_wp2_with fail
      refine (HB.out _ (heap_set_far (Ne.symm hne) _ _)).mono ?_; rintro e w1 ⟨rfl, rfl⟩
      go_wp2_with fail
      refine (HS.out _ (heap_set_far (Ne.symm hne) _ _)).mono ?_; rintro e w1 ⟨rfl, rfl⟩
      go_upto_if 80 with (fail)
      go_cut [] (fun wx => Hid (Cut1 w wx r g c p neg ex f0))
      case first =>
        rcases Nat.eq_or_lt_of_le hn1 with e1 | e1
        · have HC := Lib.hid (HC1.out e1.symm)
          clear HC1
          subst e1
          go_wp2
          go_meet
          exact HC
        · have d2 : (1 : Int) < (n : Int) := by omega
          have en1 : (n : Int) - 1 = ((n - 1 : Nat) : Int) := by omega
          have d3 : (1 : Int) ≤ (c : Int) := by omega
          obtain ⟨a2, ea2, s2⟩ := slice_fromK .u32 34 Tryz.underlying34 g 0 n c (n - 1) (by omega)
          obtain rfl : a2 = ⟨g, n - 1, none⟩ := by have := ea2 (by omega); rw [Nat.zero_add] at this; exact this
          rw [show n - (n - 1) = 1 by omega] at s2
          obtain ⟨w3, hr2, hb2, ho2⟩ := copy_words 34 Tryz.underlying34 3 g 0 n c g (n - 1) 1 (c - (n - 1)) 1 c (fun i => f (n - 1 + i)) f (w.setCell ⟨r, 2, none⟩ (.int .i8 0)).drew (HBl.out.drewN 1) (fun j hj => (HBl.out.drewN 1).cell (n - 1 + j) (by omega)) (by show 1 = min 1 n; omega) (by omega)
          have HF3 := Lib.hid ((HF.out.drewN 1).of_eq (ho2.2.1 r hne))
          have HFr3 := Lib.hid ((HFr.out.drewN 1).only ho2)
          have HB3 := Lib.hid hb2
          clear ho2 hb2 ea2 HC1
          go_wp2_with fail
          have ew : IntKind.u32.wrap (((n - 1 : Nat) : Int)) = ((n - 1 : Nat) : Int) := IntWalk.u32_in _ (by omega)
          go_region_law (refine step_copy_eq (by rfl) (.tmp 84) (.tmp 92) 34 34 (by rfl) (.slice (some ⟨g, 0, none⟩) n c) (.slice (some ⟨g, n - 1, none⟩) 1 (c - (n - 1))) (by simp [Act.eval, Act.put]) (by simp [Act.eval, Act.put]) hr2 ?_)
          all_goals
            go_simp
            have q5 := HF3.out.c5
            have qf := HF3.out.fr 5
            clear c0 c1 c2 c3 c5 f2 f5
            go_wp2_with fail
            go_meet
            refine Lib.hid ⟨_, HF3.out.s5 _, HB3.out.of_eq (heap_set_far (Ne.symm hne) _ _), ?_, HFr3.out.setB _ _⟩
            rw [put0_in f 1 _ 0 (by omega), Nat.add_zero]
            exact hf0
      case rest =>
        obtain ⟨f1, hF1, hB1, hf1, hR1⟩ := hcut.out
        have q0 := hF1.c0
        have q1 := hF1.c1
        have q2 := hF1.c2
        have q4 := hF1.c4
        have q5 := hF1.c5
        have q6 := hF1.c6
        have k2 := hF1.fr 2
        have k6 := hF1.fr 6
        have b0 := hB1.cell 0 (by omega)
        have g0 := hB1.frozen 0
        rw [hf1] at b0
        clear hcut c0 c1 c2 c3 c5 f2 f5
        have HF1 := Lib.hid hF1
        have HB1 := Lib.hid hB1
        have HR1 := Lib.hid hR1
        have Hf1 := Lib.hid hf1
        clear hF1 hB1 hR1 hf1 HB HS HC1 hrb hst
        have eN := hN f0 hf0w
        clear hN hA
        have c9 : ∀ v, (wc.setCell ⟨r, 2, none⟩ v).cell? ⟨g, 0, none⟩ = some (.int .u64 (f0 : Int)) := fun v => by
          rw [cell_of_heap (heap_set_far (Ne.symm hne) _ _)]; exact b0
        have f9 : ∀ v, (wc.setCell ⟨r, 2, none⟩ v).frozen? ⟨g, 0, none⟩ = false := fun v => by rw [World.frozen?_setCell]; exact g0
        go_wp2_with fail
        refine (HACC.out _ _).mono ?_; rintro e w1 ⟨va, rfl, rfl⟩
        go_wp2_with fail
        refine bodyPost_end (results_none rfl _ _ _) rfl ?_
        refine ⟨rfl, f0 / L * L, ex, ?_, _, _, (HF1.out.s2 _).of_eq (heap_set_far hne _ _), (HB1.out.of_eq (heap_set_far (Ne.symm hne) _ _)).set 0 _, upd_same _ _ _, (HR1.out.setB _ _).setG _ _⟩
        rw [show qq = f0 / L by have := HQ.out; simpa using this]
        exact WK.out f0 hf0w
  · rcases hst2 with rfl | rfl
    · go_enter Tryz.func30, Tryz.ntmps30
      go_wp2_with fail
      refine (HB.out _ (heap_set_far (Ne.symm hne) _ _)).mono ?_; rintro e w1 ⟨rfl, rfl⟩
      go_wp2_with fail
      refine (HS.out _ (heap_set_far (Ne.symm hne) _ _)).mono ?_; rintro e w1 ⟨rfl, rfl⟩
      go_upto_if 80 with (fail)
      go_cut [] (fun wx => Hid (Cut1 w wx r g c p neg ex f0))
      case first =>
        rcases Nat.eq_or_lt_of_le hn1 with e1 | e1
        · have HC := Lib.hid (HC1.out e1.symm)
          clear HC1
          subst e1
          go_wp2
          go_meet
          exact HC
        · have d2 : (1 : Int) < (n : Int) := by omega
          have en1 : (n : Int) - 1 = ((n - 1 : Nat) : Int) := by omega
          have d3 : (1 : Int) ≤ (c : Int) := by omega
          obtain ⟨a2, ea2, s2⟩ := slice_fromK .u32 34 Tryz.underlying34 g 0 n c (n - 1) (by omega)
          obtain rfl : a2 = ⟨g, n - 1, none⟩ := by have := ea2 (by omega); rw [Nat.zero_add] at this; exact this
          rw [show n - (n - 1) = 1 by omega] at s2
          obtain ⟨w3, hr2, hb2, ho2⟩ := copy_words 34 Tryz.underlying34 3 g 0 n c g (n - 1) 1 (c - (n - 1)) 1 c (fun i => f (n - 1 + i)) f (w.setCell ⟨r, 2, none⟩ (.int .i8 0)).drew (HBl.out.drewN 1) (fun j hj => (HBl.out.drewN 1).cell (n - 1 + j) (by omega)) (by show 1 = min 1 n; omega) (by omega)
          have HF3 := Lib.hid ((HF.out.drewN 1).of_eq (ho2.2.1 r hne))
          have HFr3 := Lib.hid ((HFr.out.drewN 1).only ho2)
          have HB3 := Lib.hid hb2
          clear ho2 hb2 ea2 HC1
          go_wp2_with fail
          have ew : IntKind.u32.wrap (((n - 1 : Nat) : Int)) = ((n - 1 : Nat) : Int) := IntWalk.u32_in _ (by omega)
          go_region_law (refine step_copy_eq (by rfl) (.tmp 84) (.tmp 92) 34 34 (by rfl) (.slice (some ⟨g, 0, none⟩) n c) (.slice (some ⟨g, n - 1, none⟩) 1 (c - (n - 1))) (by simp [Act.eval, Act.put]) (by simp [Act.eval, Act.put]) hr2 ?_)
          all_goals
            go_simp
            have q5 := HF3.out.c5
            have qf := HF3.out.fr 5
            clear c0 c1 c2 c3 c5 f2 f5
            go_wp2_with fail
            go_meet
            refine Lib.hid ⟨_, HF3.out.s5 _, HB3.out.of_eq (heap_set_far (Ne.symm hne) _ _), ?_, HFr3.out.setB _ _⟩
            rw [put0_in f 1 _ 0 (by omega), Nat.add_zero]
            exact hf0
      case rest =>
        obtain ⟨f1, hF1, hB1, hf1, hR1⟩ := hcut.out
        have q0 := hF1.c0
        have q1 := hF1.c1
        have q2 := hF1.c2
        have q4 := hF1.c4
        have q5 := hF1.c5
        have q6 := hF1.c6
        have k2 := hF1.fr 2
        have k6 := hF1.fr 6
        have b0 := hB1.cell 0 (by omega)
        have g0 := hB1.frozen 0
        rw [hf1] at b0
        clear hcut c0 c1 c2 c3 c5 f2 f5
        have HF1 := Lib.hid hF1
        have HB1 := Lib.hid hB1
        have HR1 := Lib.hid hR1
        have Hf1 := Lib.hid hf1
        clear hF1 hB1 hR1 hf1 HB HS HC1 hrb hst
        rcases Nat.mod_two_eq_zero_or_one (f0 / L) with hpz | hpz
        · have eN := hN f0 hf0w
          have hpar : f0 / L % 2 = 0 := hpz
          have eA : bits .and .u64 (f0 : Int) (L : Int) = 0 := by have r := hA f0 hf0w; rw [hpar, Nat.zero_mul] at r; exact r
          clear hN hA
          have c9 : ∀ v, (wc.setCell ⟨r, 2, none⟩ v).cell? ⟨g, 0, none⟩ = some (.int .u64 (f0 : Int)) := fun v => by
            rw [cell_of_heap (heap_set_far (Ne.symm hne) _ _)]; exact b0
          have f9 : ∀ v, (wc.setCell ⟨r, 2, none⟩ v).frozen? ⟨g, 0, none⟩ = false := fun v => by rw [World.frozen?_setCell]; exact g0
          go_wp2_with fail
          refine (HACC.out _ _).mono ?_; rintro e w1 ⟨va, rfl, rfl⟩
          go_wp2_with fail
          refine bodyPost_end (results_none rfl _ _ _) rfl ?_
          refine ⟨rfl, f0 / L * L, ex, ?_, _, _, (HF1.out.s2 _).of_eq (heap_set_far hne _ _), (HB1.out.of_eq (heap_set_far (Ne.symm hne) _ _)).set 0 _, upd_same _ _ _, (HR1.out.setB _ _).setG _ _⟩
          rw [show qq = f0 / L by have := HQ.out; simpa [hpar] using this]
          exact WK.out f0 hf0w
        · have hpar : f0 / L % 2 = 1 := hpz
          have eA : bits .and .u64 (f0 : Int) (L : Int) = (L : Int) := by have r := hA f0 hf0w; rw [hpar, Nat.one_mul] at r; exact r
          have eL0 : ¬ ((L : Int) = 0) := by omega
          have eL1 : ((L : Int) == 0) = false := beq_eq_false_iff_ne.2 eL0
          go_wp2_with fail
          refine (HACC.out _ _).mono ?_; rintro e w1 ⟨va, rfl, rfl⟩
          go_wp2_with fail
          have hBx : Blk (w1.setCell ⟨r, 2, none⟩ (.int .i8 va)).drew g c f1 := (HB1.out.of_eq (heap_set_far (Ne.symm hne) _ _)).drewN 1
          have HV := addVW_same g 0 c 1 c L f1 f1 (w1.setCell ⟨r, 2, none⟩ (.int .i8 va)).drew hBx (by omega) (fun j hj => by rw [Nat.zero_add]; exact hBx.cell j (by omega)) (fun j hj => by
            obtain rfl : j = 0 := by omega
            rw [Hf1.out]; exact hf0w) (by omega) (by omega) (by omega)
          have HF2 := Lib.hid ((HF1.out.s2 va).drewN 1)
          have HR2 := Lib.hid ((HR1.out.setB 2 (.int .i8 va)).drewN 1)
          have ec : addC f1 (one L) 1 = (f1 0 + L + 0) / 18446744073709551616 := rfl
          have eW : put f1 0 1 (addW f1 (one L)) 0 = (f0 + L) % 18446744073709551616 := by
            rw [put0_in _ _ _ _ (by omega), ← Hf1.out]; rfl
          rw [ec, Hf1.out, Nat.add_zero] at HV
          clear hBx hA ec
          rcases Nat.lt_or_ge (f0 + L) 18446744073709551616 with ho | ho
          · rw [Nat.div_eq_of_lt ho] at HV
            rw [Nat.mod_eq_of_lt ho] at eW
            have eN := hN (f0 + L) ho
            have HWU := Lib.hid (WU.out f0 ho)
            obtain ⟨F, hF⟩ : ∃ F, f0 + L = F := ⟨_, rfl⟩
            rw [hF] at eN HWU eW ho
            clear hN hF
            have HV2 := Lib.hid HV
            have EW := Lib.hid eW
            clear HV eW
            go_region_with (go_at_call 44; refine HV2.out.mono ?_; rintro e w2 ⟨rfl, hb2, ho2⟩)
            all_goals
              have hF2 := HF2.out.of_eq (ho2.2.1 r hne)
              have p5 := hF2.c5
              have p6 := hF2.c6
              have p66 := hF2.fr 6
              have pb := hb2.cell 0 (by omega)
              have pf := hb2.frozen 0
              rw [EW.out] at pb
              have HF3 := Lib.hid hF2
              have HB3 := Lib.hid hb2
              have HO3 := Lib.hid ho2
              clear hF2 hb2 ho2
              go_wp2_with fail
              refine bodyPost_end (results_none rfl _ _ _) rfl ?_
              refine ⟨rfl, F / L * L, ex, ?_, _, _, HF3.out.of_eq (heap_set_far hne _ _), HB3.out.set 0 _, upd_same _ _ _, (HR2.out.only HO3.out).setG _ _⟩
              rw [show qq = f0 / L + 1 by have := HQ.out; simpa [hpar] using this]
              exact HWU.out
          · rw [show (f0 + L) / 18446744073709551616 = 1 by omega] at HV
            have HWO := WO.out f0 hf0w ho
            obtain ⟨G, hG⟩ : ∃ G, (f0 + L) % 18446744073709551616 = G := ⟨_, rfl⟩
            have hG1 : G < 18446744073709551616 := by omega
            rw [hG] at eW HWO
            obtain ⟨G2, hG2⟩ : ∃ G2, G / 2 = G2 := ⟨_, rfl⟩
            rw [hG2] at HWO
            have eO := or_top G2 (by omega)
            obtain ⟨U, hU⟩ : ∃ U, 9223372036854775808 + G2 = U := ⟨_, rfl⟩
            rw [hU] at eO HWO
            have eN := hN U (by omega)
            clear hN
            have HG2 := Lib.hid hG2
            have HV2 := Lib.hid HV
            have EW := Lib.hid eW
            have HWO2 := Lib.hid HWO
            clear HV eW hG hU hG2 HWO
            go_region_with (go_at_call 44; refine HV2.out.mono ?_; rintro e w2 ⟨rfl, hb2, ho2⟩)
            all_goals
              have hF2 := HF2.out.of_eq (ho2.2.1 r hne)
              have p5 := hF2.c5
              have p6 := hF2.c6
              have p66 := hF2.fr 6
              have HS1 : Hid (∀ W : World, W.heap[g]? = w2.heap[g]? → Calls Tryz.prog 26 #[.slice (some ⟨g, 0, none⟩) 1 c, .slice (some ⟨g, 0, none⟩) 1 c, .int .u64 1] W fun e w' => (∃ v, e = .returned v) ∧ Blk w' g c (upd (put f1 0 1 (addW f1 (one L))) 0 G2) ∧ Only W w' g) := Lib.hid (fun W hW => by
                have r := rshVU_one g c G c (put f1 0 1 (addW f1 (one L))) W (hb2.of_eq hW) (by omega) EW.out
                refine r.mono ?_
                rintro e w' ⟨rfl, rfl⟩
                rw [HG2.out]
                exact ⟨⟨_, rfl⟩, (hb2.of_eq hW).set 0 G2, (Only.refl _ _).set _ _⟩)
              have HF3 := Lib.hid (hF2.s6 (ex + 1))
              have HR3 := Lib.hid ((HR2.out.only ho2).setB 6 (.int .i32 (ex + 1)))
              clear hF2 hb2 ho2
              have hL3 : ((w2.setCell ⟨r, 6, none⟩ (.int .i32 (ex + 1))).drew).heap[g]? = w2.heap[g]? := heap_set_far (Ne.symm hne) _ _
              have HL3 := Lib.hid hL3
              clear hL3
              go_wp2_with fail
              go_region_with (go_at_call 26; refine (HS1.out _ HL3.out).mono ?_; rintro e w4 ⟨⟨v4, rfl⟩, hb4, ho4⟩)
              all_goals
                have hF4 := (HF3.out.drewN 1).of_eq (ho4.2.1 r hne)
                have r5 := hF4.c5
                have rb := hb4.cell 0 (by omega)
                have rf := hb4.frozen 0
                rw [upd_same] at rb
                have HF5 := Lib.hid hF4
                have HB5 := Lib.hid hb4
                have HO5 := Lib.hid ho4
                clear hF4 hb4 ho4
                go_wp2_with fail
                refine bodyPost_end (results_none rfl _ _ _) rfl ?_
                refine ⟨rfl, U / L * L, ex + 1, ?_, _, _, (HF5.out.of_eq (heap_set_far hne _ _)).of_eq (heap_set_far hne _ _), (HB5.out.set 0 _).set 0 _, upd_same _ _ _, (((HR3.out.drewN 1).only HO5.out).setG _ _).setG _ _⟩
                rw [show qq = f0 / L + 1 by have := HQ.out; simpa [hpar] using this]
                exact HWO2.out
    · go_enter Tryz.func30, Tryz.ntmps30
      go_wp2_with fail
      refine (HB.out _ (heap_set_far (Ne.symm hne) _ _)).mono ?_; rintro e w1 ⟨rfl, rfl⟩
      go_wp2_with fail
      refine (HS.out _ (heap_set_far (Ne.symm hne) _ _)).mono ?_; rintro e w1 ⟨rfl, rfl⟩
      go_upto_if 80 with (fail)
      go_cut [] (fun wx => Hid (Cut1 w wx r g c p neg ex f0))
      case first =>
        rcases Nat.eq_or_lt_of_le hn1 with e1 | e1
        · have HC := Lib.hid (HC1.out e1.symm)
          clear HC1
          subst e1
          go_wp2
          go_meet
          exact HC
        · have d2 : (1 : Int) < (n : Int) := by omega
          have en1 : (n : Int) - 1 = ((n - 1 : Nat) : Int) := by omega
          have d3 : (1 : Int) ≤ (c : Int) := by omega
          obtain ⟨a2, ea2, s2⟩ := slice_fromK .u32 34 Tryz.underlying34 g 0 n c (n - 1) (by omega)
          obtain rfl : a2 = ⟨g, n - 1, none⟩ := by have := ea2 (by omega); rw [Nat.zero_add] at this; exact this
          rw [show n - (n - 1) = 1 by omega] at s2
          obtain ⟨w3, hr2, hb2, ho2⟩ := copy_words 34 Tryz.underlying34 3 g 0 n c g (n - 1) 1 (c - (n - 1)) 1 c (fun i => f (n - 1 + i)) f (w.setCell ⟨r, 2, none⟩ (.int .i8 0)).drew (HBl.out.drewN 1) (fun j hj => (HBl.out.drewN 1).cell (n - 1 + j) (by omega)) (by show 1 = min 1 n; omega) (by omega)
          have HF3 := Lib.hid ((HF.out.drewN 1).of_eq (ho2.2.1 r hne))
          have HFr3 := Lib.hid ((HFr.out.drewN 1).only ho2)
          have HB3 := Lib.hid hb2
          clear ho2 hb2 ea2 HC1
          go_wp2_with fail
          have ew : IntKind.u32.wrap (((n - 1 : Nat) : Int)) = ((n - 1 : Nat) : Int) := IntWalk.u32_in _ (by omega)
          go_region_law (refine step_copy_eq (by rfl) (.tmp 84) (.tmp 92) 34 34 (by rfl) (.slice (some ⟨g, 0, none⟩) n c) (.slice (some ⟨g, n - 1, none⟩) 1 (c - (n - 1))) (by simp [Act.eval, Act.put]) (by simp [Act.eval, Act.put]) hr2 ?_)
          all_goals
            go_simp
            have q5 := HF3.out.c5
            have qf := HF3.out.fr 5
            clear c0 c1 c2 c3 c5 f2 f5
            go_wp2_with fail
            go_meet
            refine Lib.hid ⟨_, HF3.out.s5 _, HB3.out.of_eq (heap_set_far (Ne.symm hne) _ _), ?_, HFr3.out.setB _ _⟩
            rw [put0_in f 1 _ 0 (by omega), Nat.add_zero]
            exact hf0
      case rest =>
        obtain ⟨f1, hF1, hB1, hf1, hR1⟩ := hcut.out
        have q0 := hF1.c0
        have q1 := hF1.c1
        have q2 := hF1.c2
        have q4 := hF1.c4
        have q5 := hF1.c5
        have q6 := hF1.c6
        have k2 := hF1.fr 2
        have k6 := hF1.fr 6
        have b0 := hB1.cell 0 (by omega)
        have g0 := hB1.frozen 0
        rw [hf1] at b0
        clear hcut c0 c1 c2 c3 c5 f2 f5
        have HF1 := Lib.hid hF1
        have HB1 := Lib.hid hB1
        have HR1 := Lib.hid hR1
        have Hf1 := Lib.hid hf1
        clear hF1 hB1 hR1 hf1 HB HS HC1 hrb hst
        go_wp2_with fail
        refine (HACC.out _ _).mono ?_; rintro e w1 ⟨va, rfl, rfl⟩
        go_wp2_with fail
        have hBx : Blk (w1.setCell ⟨r, 2, none⟩ (.int .i8 va)).drew g c f1 := (HB1.out.of_eq (heap_set_far (Ne.symm hne) _ _)).drewN 1
        have HV := addVW_same g 0 c 1 c L f1 f1 (w1.setCell ⟨r, 2, none⟩ (.int .i8 va)).drew hBx (by omega) (fun j hj => by rw [Nat.zero_add]; exact hBx.cell j (by omega)) (fun j hj => by
          obtain rfl : j = 0 := by omega
          rw [Hf1.out]; exact hf0w) (by omega) (by omega) (by omega)
        have HF2 := Lib.hid ((HF1.out.s2 va).drewN 1)
        have HR2 := Lib.hid ((HR1.out.setB 2 (.int .i8 va)).drewN 1)
        have ec : addC f1 (one L) 1 = (f1 0 + L + 0) / 18446744073709551616 := rfl
        have eW : put f1 0 1 (addW f1 (one L)) 0 = (f0 + L) % 18446744073709551616 := by
          rw [put0_in _ _ _ _ (by omega), ← Hf1.out]; rfl
        rw [ec, Hf1.out, Nat.add_zero] at HV
        clear hBx hA ec
        rcases Nat.lt_or_ge (f0 + L) 18446744073709551616 with ho | ho
        · rw [Nat.div_eq_of_lt ho] at HV
          rw [Nat.mod_eq_of_lt ho] at eW
          have eN := hN (f0 + L) ho
          have HWU := Lib.hid (WU.out f0 ho)
          obtain ⟨F, hF⟩ : ∃ F, f0 + L = F := ⟨_, rfl⟩
          rw [hF] at eN HWU eW ho
          clear hN hF
          have HV2 := Lib.hid HV
          have EW := Lib.hid eW
          clear HV eW
          go_region_with (go_at_call 44; refine HV2.out.mono ?_; rintro e w2 ⟨rfl, hb2, ho2⟩)
          all_goals
            have hF2 := HF2.out.of_eq (ho2.2.1 r hne)
            have p5 := hF2.c5
            have p6 := hF2.c6
            have p66 := hF2.fr 6
            have pb := hb2.cell 0 (by omega)
            have pf := hb2.frozen 0
            rw [EW.out] at pb
            have HF3 := Lib.hid hF2
            have HB3 := Lib.hid hb2
            have HO3 := Lib.hid ho2
            clear hF2 hb2 ho2
            go_wp2_with fail
            refine bodyPost_end (results_none rfl _ _ _) rfl ?_
            refine ⟨rfl, F / L * L, ex, ?_, _, _, HF3.out.of_eq (heap_set_far hne _ _), HB3.out.set 0 _, upd_same _ _ _, (HR2.out.only HO3.out).setG _ _⟩
            rw [show qq = f0 / L + 1 by have := HQ.out; simpa using this]
            exact HWU.out
        · rw [show (f0 + L) / 18446744073709551616 = 1 by omega] at HV
          have HWO := WO.out f0 hf0w ho
          obtain ⟨G, hG⟩ : ∃ G, (f0 + L) % 18446744073709551616 = G := ⟨_, rfl⟩
          have hG1 : G < 18446744073709551616 := by omega
          rw [hG] at eW HWO
          obtain ⟨G2, hG2⟩ : ∃ G2, G / 2 = G2 := ⟨_, rfl⟩
          rw [hG2] at HWO
          have eO := or_top G2 (by omega)
          obtain ⟨U, hU⟩ : ∃ U, 9223372036854775808 + G2 = U := ⟨_, rfl⟩
          rw [hU] at eO HWO
          have eN := hN U (by omega)
          clear hN
          have HG2 := Lib.hid hG2
          have HV2 := Lib.hid HV
          have EW := Lib.hid eW
          have HWO2 := Lib.hid HWO
          clear HV eW hG hU hG2 HWO
          go_region_with (go_at_call 44; refine HV2.out.mono ?_; rintro e w2 ⟨rfl, hb2, ho2⟩)
          all_goals
            have hF2 := HF2.out.of_eq (ho2.2.1 r hne)
            have p5 := hF2.c5
            have p6 := hF2.c6
            have p66 := hF2.fr 6
            have HS1 : Hid (∀ W : World, W.heap[g]? = w2.heap[g]? → Calls Tryz.prog 26 #[.slice (some ⟨g, 0, none⟩) 1 c, .slice (some ⟨g, 0, none⟩) 1 c, .int .u64 1] W fun e w' => (∃ v, e = .returned v) ∧ Blk w' g c (upd (put f1 0 1 (addW f1 (one L))) 0 G2) ∧ Only W w' g) := Lib.hid (fun W hW => by
              have r := rshVU_one g c G c (put f1 0 1 (addW f1 (one L))) W (hb2.of_eq hW) (by omega) EW.out
              refine r.mono ?_
              rintro e w' ⟨rfl, rfl⟩
              rw [HG2.out]
              exact ⟨⟨_, rfl⟩, (hb2.of_eq hW).set 0 G2, (Only.refl _ _).set _ _⟩)
            have HF3 := Lib.hid (hF2.s6 (ex + 1))
            have HR3 := Lib.hid ((HR2.out.only ho2).setB 6 (.int .i32 (ex + 1)))
            clear hF2 hb2 ho2
            have hL3 : ((w2.setCell ⟨r, 6, none⟩ (.int .i32 (ex + 1))).drew).heap[g]? = w2.heap[g]? := heap_set_far (Ne.symm hne) _ _
            have HL3 := Lib.hid hL3
            clear hL3
            go_wp2_with fail
            go_region_with (go_at_call 26; refine (HS1.out _ HL3.out).mono ?_; rintro e w4 ⟨⟨v4, rfl⟩, hb4, ho4⟩)
            all_goals
              have hF4 := (HF3.out.drewN 1).of_eq (ho4.2.1 r hne)
              have r5 := hF4.c5
              have rb := hb4.cell 0 (by omega)
              have rf := hb4.frozen 0
              rw [upd_same] at rb
              have HF5 := Lib.hid hF4
              have HB5 := Lib.hid hb4
              have HO5 := Lib.hid ho4
              clear hF4 hb4 ho4
              go_wp2_with fail
              refine bodyPost_end (results_none rfl _ _ _) rfl ?_
              refine ⟨rfl, U / L * L, ex + 1, ?_, _, _, (HF5.out.of_eq (heap_set_far hne _ _)).of_eq (heap_set_far hne _ _), (HB5.out.set 0 _).set 0 _, upd_same _ _ _, (((HR3.out.drewN 1).only HO5.out).setG _ _).setG _ _⟩
              rw [show qq = f0 / L + 1 by have := HQ.out; simpa using this]
              exact HWO2.out
end Go.Proofs.YtmkdcnemocdefaaGreatFmt
