/- round at 2400 bits, where what is cut off is nought. -/
import Derived.Test.YtmkdcnemocdefaaGreatFmtFlo1
namespace Go.Proofs.YtmkdcnemocdefaaGreatFmt
open Go.RowKit

theorem cut_step (V k : Nat) : V % 2 ^ (k + 1) = V % 2 ^ k + V / 2 ^ k % 2 * 2 ^ k := by
  rw [Nat.pow_succ, Nat.mod_mul, Nat.mul_comm (2 ^ k)]

set_option maxRecDepth 20000 in
set_option maxHeartbeats 2000000 in
theorem round_38 (b g c : Nat) (acc exp : Int) (neg : Bool) (f : Nat → Nat) (w : World) (h : Flt w b 2400 acc 1 neg (.slice (some ⟨g, 0, none⟩) 38 c) exp) (hb : Blk w g c f) (hne : b ≠ g) (hc : 38 ≤ c) (hf : Wds f 38) (h0 : num f 38 % 2 ^ 32 = 0) :
    Calls Tryz.prog 30 #[.pointer (some ⟨b, 0, none⟩), .int .u64 0] w fun e w' => e = .returned (.tuple #[]) ∧ Flt w' b 2400 0 1 neg (.slice (some ⟨g, 0, none⟩) 38 c) exp ∧ Blk w' g c f ∧ Fr w w' b g := by
  have c0 := h.c0
  have c1 := h.c1
  have c2 := h.c2
  have c3 := h.c3
  have c5 := h.c5
  have f2 := h.fr 2
  have f5 := h.fr 5
  have hr := rest_zero f 38 32 (by decide) hf
  have hw : f 0 % 2 ^ 32 = 0 := (hr.1 h0).2
  have HB : Hid (∀ W, W.heap[g]? = w.heap[g]? → Calls Tryz.prog 43 #[.slice (some ⟨g, 0, none⟩) 38 c, .int .u64 31] W fun e w' => e = .returned (.int .u64 0) ∧ w' = W) := Lib.hid (fun W hW => by
    have k := bit_any g c 38 31 f W (fun j hj => by rw [Nat.zero_add, cell_of_heap hW]; exact hb.cell j (by omega)) hf (by decide) (by omega)
    have e : num f 38 / 2 ^ 31 % 2 = 0 := by omega
    rw [e] at k
    exact k)
  have HS : Hid (∀ W, W.heap[g]? = w.heap[g]? → Calls Tryz.prog 40 #[.slice (some ⟨g, 0, none⟩) 38 c, .int .u64 31] W fun e w' => e = .returned (.int .u64 0) ∧ w' = W) := Lib.hid (fun W hW => by
    have k := sticky_any g c 38 31 f W (fun j hj => by rw [Nat.zero_add, cell_of_heap hW]; exact hb.cell j (by omega)) hf (by decide) (by omega) (by omega)
    have e : stk (num f 38) 31 = 0 := if_pos (by omega)
    rw [e] at k
    exact k)
  have ea : bits .andNot .u64 (f 0 : Int) 4294967295 = (f 0 : Int) := by
    have k := andNot_low (f 0) 32 (hf 0 (by omega)) (by decide)
    rw [show f 0 / 2 ^ 32 * 2 ^ 32 = f 0 by omega] at k
    exact k
  have c9 : (w.setCell ⟨b, 2, none⟩ (.int .i8 0)).cell? ⟨g, 0, none⟩ = some (.int .u64 (f 0 : Int)) := by
    rw [cell_of_heap (heap_set_far (Ne.symm hne) _ _)]; exact hb.cell 0 (by omega)
  have f9 : (w.setCell ⟨b, 2, none⟩ (.int .i8 0)).frozen? ⟨g, 0, none⟩ = false := by rw [World.frozen?_setCell]; exact hb.frozen 0
  have HF := Lib.hid (h.s2 0)
  have HBl := Lib.hid (hb.of_eq (w' := w.setCell ⟨b, 2, none⟩ (.int .i8 0)) (heap_set_far (Ne.symm hne) _ _))
  clear h hb hr hw hf h0
  go_enter Tryz.func30, Tryz.ntmps30
  go_wp2_with fail
  refine (HB.out _ (heap_set_far (Ne.symm hne) _ _)).mono ?_; rintro e w1 ⟨rfl, rfl⟩
  go_wp2_with fail
  refine (HS.out _ (heap_set_far (Ne.symm hne) _ _)).mono ?_; rintro e w1 ⟨rfl, rfl⟩
  go_wp2_with fail
  refine bodyPost_end (results_none rfl _ _ _) rfl ?_
  refine ⟨rfl, HF.out.of_eq (heap_set_far hne _ _), ?_, ((Fr.refl w b g).setB _ _).setG _ _⟩
  refine (HBl.out.set 0 (f 0)).congr fun i _ => ?_
  unfold upd
  split
  · rename_i e; rw [e]
  · rfl
set_option maxRecDepth 20000 in
set_option maxHeartbeats 4000000 in
theorem round_gt (b g n c : Nat) (acc exp : Int) (neg : Bool) (f : Nat → Nat) (w : World) (h : Flt w b 2400 acc 1 neg (.slice (some ⟨g, 0, none⟩) n c) exp) (hb : Blk w g c f) (hne : b ≠ g) (hn : 38 < n) (hn2 : n ≤ 1000000) (hc : n ≤ c) (hf : Wds f n) (h0 : num f n % 2 ^ (64 * n - 2400) = 0) :
    Calls Tryz.prog 30 #[.pointer (some ⟨b, 0, none⟩), .int .u64 0] w fun e w' => e = .returned (.tuple #[]) ∧ Flt w' b 2400 0 1 neg (.slice (some ⟨g, 0, none⟩) 38 c) exp ∧ Blk w' g c (put f 0 38 (fun i => f (n - 38 + i))) ∧ Fr w w' b g := by
  have c0 := h.c0
  have c1 := h.c1
  have c2 := h.c2
  have c3 := h.c3
  have c5 := h.c5
  have f2 := h.fr 2
  have f5 := h.fr 5
  obtain ⟨r, hr⟩ : ∃ r, 64 * n - 2401 = r := ⟨_, rfl⟩
  have h0' : num f n % 2 ^ (r + 1) = 0 := by rw [show r + 1 = 64 * n - 2400 by omega]; exact h0
  have hw : f (n - 38) % 2 ^ 32 = 0 := by
    have k := ((rest_zero f n (64 * n - 2400) (by omega) hf).1 h0).2
    rw [show (64 * n - 2400) / 64 = n - 38 by omega, show (64 * n - 2400) % 64 = 32 by omega] at k
    exact k
  have hrs := cut_step (num f n) r
  rw [h0'] at hrs
  have p0 : 0 < (2 : Nat) ^ r := Nat.two_pow_pos r
  have hb0 : num f n / 2 ^ r % 2 = 0 := by
    rcases Nat.eq_zero_or_pos (num f n / 2 ^ r % 2) with e | e
    · exact e
    · have := Nat.mul_le_mul_right (2 ^ r) e
      omega
  have hs0 : num f n % 2 ^ r = 0 := by omega
  have HB : Hid (∀ W, W.heap[g]? = w.heap[g]? → Calls Tryz.prog 43 #[.slice (some ⟨g, 0, none⟩) n c, .int .u64 (r : Int)] W fun e w' => e = .returned (.int .u64 0) ∧ w' = W) := Lib.hid (fun W hW => by
    have k := bit_any g c n r f W (fun j hj => by rw [Nat.zero_add, cell_of_heap hW]; exact hb.cell j (by omega)) hf (by omega) (by omega)
    rw [hb0] at k
    exact k)
  have HS : Hid (∀ W, W.heap[g]? = w.heap[g]? → Calls Tryz.prog 40 #[.slice (some ⟨g, 0, none⟩) n c, .int .u64 (r : Int)] W fun e w' => e = .returned (.int .u64 0) ∧ w' = W) := Lib.hid (fun W hW => by
    have k := sticky_any g c n r f W (fun j hj => by rw [Nat.zero_add, cell_of_heap hW]; exact hb.cell j (by omega)) hf (by omega) (by omega) (by omega)
    have e : stk (num f n) r = 0 := if_pos hs0
    rw [e] at k
    exact k)
  have ea : bits .andNot .u64 (f (n - 38) : Int) 4294967295 = (f (n - 38) : Int) := by
    have k := andNot_low (f (n - 38)) 32 (hf (n - 38) (by omega)) (by decide)
    rw [show f (n - 38) / 2 ^ 32 * 2 ^ 32 = f (n - 38) by omega] at k
    exact k
  have HF := Lib.hid (h.s2 0)
  have HBl := Lib.hid (hb.of_eq (w' := w.setCell ⟨b, 2, none⟩ (.int .i8 0)) (heap_set_far (Ne.symm hne) _ _))
  have HFr := Lib.hid ((Fr.refl w b g).setB 2 (.int .i8 0))
  have er : (n : Int) * 64 - 2400 - 1 = (r : Int) := by omega
  have en : (n : Int) - 38 = ((n - 38 : Nat) : Int) := by omega
  have d1 : ¬ ((n : Int) * 64 ≤ 2400) := by omega
  have d2 : (38 : Int) < (n : Int) := by omega
  have d3 : (38 : Int) ≤ (c : Int) := by omega
  obtain ⟨a2, ea2, s2⟩ := slice_fromK .u32 34 Tryz.underlying34 g 0 n c (n - 38) (by omega)
  obtain rfl : a2 = ⟨g, n - 38, none⟩ := by have := ea2 (by omega); rw [Nat.zero_add] at this; exact this
  rw [show n - (n - 38) = 38 by omega] at s2
  obtain ⟨w3, hr2, hb2, ho2⟩ := copy_words 34 Tryz.underlying34 3 g 0 n c g (n - 38) 38 (c - (n - 38)) 38 c (fun i => f (n - 38 + i)) f (w.setCell ⟨b, 2, none⟩ (.int .i8 0)).drew (HBl.out.drewN 1) (fun j hj => (HBl.out.drewN 1).cell (n - 38 + j) (by omega)) (by show 38 = min 38 n; omega) (by omega)
  have HF3 := Lib.hid ((HF.out.drewN 1).of_eq (ho2.2.1 b hne))
  have HFr3 := Lib.hid ((HFr.out.drewN 1).only ho2)
  have HB3 := Lib.hid hb2
  clear h hb hw hf h0 h0' hrs hb0 hs0 hr ho2 hb2 ea2
  go_enter Tryz.func30, Tryz.ntmps30
  go_wp2_with fail
  refine (HB.out _ (heap_set_far (Ne.symm hne) _ _)).mono ?_; rintro e w1 ⟨rfl, rfl⟩
  go_wp2_with fail
  refine (HS.out _ (heap_set_far (Ne.symm hne) _ _)).mono ?_; rintro e w1 ⟨rfl, rfl⟩
  go_wp2_with fail
  have ew : IntKind.u32.wrap (((n - 38 : Nat) : Int)) = ((n - 38 : Nat) : Int) := IntWalk.u32_in _ (by omega)
  go_region_law (refine step_copy_eq (by rfl) (.tmp 84) (.tmp 92) 34 34 (by rfl) (.slice (some ⟨g, 0, none⟩) n c) (.slice (some ⟨g, n - 38, none⟩) 38 (c - (n - 38))) (by simp [Act.eval, Act.put]) (by simp [Act.eval, Act.put]) hr2 ?_)
  all_goals
    go_simp
    have q0 := HF3.out.c0
    have q1 := HF3.out.c1
    have q5 := HF3.out.c5
    have qf := HF3.out.fr 5
    have c9 : (w3.setCell ⟨b, 5, none⟩ (.slice (some ⟨g, 0, none⟩) 38 c)).cell? ⟨g, 0, none⟩ = some (.int .u64 (f (n - 38) : Int)) := by
      rw [cell_of_heap (heap_set_far (Ne.symm hne) _ _)]
      have k := HB3.out.cell 0 (by omega)
      rw [put0_in f 38 _ 0 (by omega), Nat.add_zero] at k
      exact k
    have f9 : (w3.setCell ⟨b, 5, none⟩ (.slice (some ⟨g, 0, none⟩) 38 c)).frozen? ⟨g, 0, none⟩ = false := by rw [World.frozen?_setCell]; exact HB3.out.frozen 0
    clear c0 c1 c2 c3 c5 f2 f5
    go_wp2_with fail
    refine bodyPost_end (results_none rfl _ _ _) rfl ?_
    refine ⟨rfl, (HF3.out.s5 _).of_eq (heap_set_far hne _ _), ?_, (HFr3.out.setB _ _).setG _ _⟩
    refine ((HB3.out.of_eq (heap_set_far (Ne.symm hne) 5 (.slice (some ⟨g, 0, none⟩) 38 c))).set 0 (f (n - 38))).congr fun i _ => ?_
    unfold upd
    split
    · rename_i e
      rw [e, put0_in f 38 _ 0 (by omega), Nat.add_zero]
    · rfl
end Go.Proofs.YtmkdcnemocdefaaGreatFmt
