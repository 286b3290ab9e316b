/- Set: of a sum that is nought to a number; of a number to itself. -/
import Derived.Test.YtmkdcnemocdefaaGreatFmtFlo5
import Derived.Test.YtmkdcnemocdefaaGreatFmtRnd1
namespace Go.Proofs.YtmkdcnemocdefaaGreatFmt
open Go.RowKit

theorem info_float : (Tryz.prog.info? 36).map (fun i => i.size) = some 7 := by kernel_rfl
theorem fptr_neq (a b : Nat) (hne : a ≠ b) (ca cb : Array Value) (w : World) (ha : w.heap[a]? = some (.cells ca 36 (0, 0))) (hb : w.heap[b]? = some (.cells cb 36 (0, 0))) :
    (binOp .neq 27 (.pointer (some ⟨a, 0, none⟩)) (.pointer (some ⟨b, 0, none⟩))).run Tryz.prog w = .ok (.bool true) w := by
  obtain ⟨k, hte, hs⟩ := Option.map_eq_some_iff.1 info_float
  have hsz : k.size ≠ 0 := by omega
  have h : ∀ d : Nat, (Op.equalIn (d + 1) 27 (.pointer (some ⟨a, 0, none⟩)) (.pointer (some ⟨b, 0, none⟩))).run Tryz.prog w = .ok false w := fun d => by
    simp [Op.equalIn, run_underlying Tryz.underlying27, sizeOf, typeInfo, hte, hsz, run_sameAddr_other w (a := ⟨a, 0, none⟩) (b := ⟨b, 0, none⟩) (fun e => hne (by cases e; rfl)) ha hb]
  simp only [binOp]
  simp [Op.equal, Op.maxDepth, h 9999]
theorem fptr_same (a : Nat) (w : World) :
    (binOp .neq 27 (.pointer (some ⟨a, 0, none⟩)) (.pointer (some ⟨a, 0, none⟩))).run Tryz.prog w = .ok (.bool false) w := by
  obtain ⟨k, hte, _⟩ := Option.map_eq_some_iff.1 info_float
  exact Lib.run_neq_ptr_same w _ Tryz.underlying27 hte
theorem setSelf_any (b prec form : Nat) (acc ex : Int) (neg : Bool) (mv : Value) (w : World) (h : Flt w b prec acc form neg mv ex) :
    Calls Tryz.prog 36 #[.pointer (some ⟨b, 0, none⟩), .pointer (some ⟨b, 0, none⟩)] w fun e w' => e = .returned (.pointer (some ⟨b, 0, none⟩)) ∧ w' = w.setCell ⟨b, 2, none⟩ (.int .i8 0) := by
  have c2 := h.c2
  have f2 := h.fr 2
  have np := fun W => fptr_same b W
  clear h
  go_enter Tryz.func36, Tryz.ntmps36
  go_wp2
  go_ret
  exact ⟨rfl, rfl⟩
set_option maxRecDepth 20000 in
set_option maxHeartbeats 2000000 in
theorem setSum_any (b p g c gy v : Nat) (acc a2 ex ey : Int) (neg sy : Bool) (mv : Value) (w : World) (h : Flt w b 2400 acc 0 neg mv ex) (hO : Old w mv g c) (hbg : b ≠ g) (hy : Flt w p 53 a2 1 sy (.slice (some ⟨gy, 0, none⟩) 1 1) ey) (hv : Blk w gy 1 (fun _ => v)) (hbp : b ≠ p) (hby : b ≠ gy) (hpg : p ≠ g) (wv : v < 2 ^ 64) (v0 : v ≠ 0) :
    Calls Tryz.prog 36 #[.pointer (some ⟨b, 0, none⟩), .pointer (some ⟨p, 0, none⟩)] w fun e w' => e = .returned (.pointer (some ⟨b, 0, none⟩)) ∧ ∃ g' c' f, Flt w' b 2400 0 1 sy (.slice (some ⟨g', 0, none⟩) 1 c') ey ∧ Blk w' g' c' f ∧ f 0 = v ∧ 1 ≤ c' ∧ b ≠ g' ∧ (g' = g ∧ c' = c ∨ w.heap.size ≤ g' ∧ c' ≤ 5) ∧ Fr w w' b g := by
  have y0 := hy.c0
  have y3 := hy.c3
  have y4 := hy.c4
  have y5 := hy.c5
  have y6 := hy.c6
  have c2 := h.c2
  have c3 := h.c3
  have c4 := h.c4
  have c6 := h.c6
  have f2 := h.fr 2
  have f3 := h.fr 3
  have f4 := h.fr 4
  have f6 := h.fr 6
  have np : ∀ v, (binOp .neq 27 (.pointer (some ⟨b, 0, none⟩)) (.pointer (some ⟨p, 0, none⟩))).run Tryz.prog (w.setCell ⟨b, 2, none⟩ v) = .ok (.bool true) (w.setCell ⟨b, 2, none⟩ v) := fun v =>
    fptr_neq b p hbp _ _ _ (heap_set h 2 _) ((heap_set_far (Ne.symm hbp) _ _).trans hy)
  obtain ⟨W1, hW1⟩ : ∃ W1, W1 = (((w.setCell ⟨b, 2, none⟩ (.int .i8 0)).setCell ⟨b, 3, none⟩ (.int .u8 1)).setCell ⟨b, 4, none⟩ (.bool sy)).setCell ⟨b, 6, none⟩ (.int .i32 ey) := ⟨_, rfl⟩
  have hfar : ∀ k, k ≠ b → W1.heap[k]? = w.heap[k]? := fun k hk => by rw [hW1, heap_set_far hk, heap_set_far hk, heap_set_far hk, heap_set_far hk]
  have HF1 : Hid (Flt W1 b 2400 0 1 sy mv ey) := Lib.hid (by rw [hW1]; exact (((h.s2 0).s3 1).s4 sy).s6 ey)
  have HFr1 : Hid (Fr w W1 b g) := Lib.hid (by rw [hW1]; exact ((((Fr.refl w b g).setB 2 (.int .i8 0)).setB 3 (.int .u8 1)).setB 4 (.bool sy)).setB 6 (.int .i32 ey))
  have hO1 : Old W1.drew mv g c := by
    rcases hO with e | ⟨k, f, e, hb⟩
    · exact Or.inl e
    · exact Or.inr ⟨k, f, e, hb.of_eq (show W1.drew.heap[g]? = _ from hfar g (Ne.symm hbg))⟩
  have hv1 : Blk W1.drew gy 1 (fun _ => v) := hv.of_eq (show W1.drew.heap[gy]? = _ from hfar gy (Ne.symm hby))
  have HS := Lib.hid (set_any mv g c gy 1 1 (fun _ => v) W1.drew hO1 (fun j hj => by rw [Nat.zero_add]; exact hv1.cell j hj) (fun _ _ => wv) (Or.inr v0) (Nat.le_refl _) (by omega))
  have z0 := HF1.out.c0
  have z5 := HF1.out.c5
  have zy5 : W1.cell? ⟨p, 5, none⟩ = some (.slice (some ⟨gy, 0, none⟩) 1 1) := (cell_of_heap (hfar p (Ne.symm hbp)) 5).trans y5
  have zy0 : W1.cell? ⟨p, 0, none⟩ = some (.int .u32 53) := (cell_of_heap (hfar p (Ne.symm hbp)) 0).trans y0
  have HQ : Hid (∀ w2 g2 c2 k2, NatR W1.drew w2 (.slice (some ⟨g2, 0, none⟩) k2 c2) g c 1 (num (fun _ => v) 1) → w2.cell? ⟨b, 5, none⟩ = some mv ∧ w2.frozen? ⟨b, 5, none⟩ = false ∧ w2.cell? ⟨b, 0, none⟩ = some (.int .u32 2400) ∧ w2.cell? ⟨p, 0, none⟩ = some (.int .u32 53)) := Lib.hid (fun w2 g2 c2 k2 hr => by
    have q := field_of (HF1.out.drewN 1) hbg hr
    obtain ⟨g', c', k', f', e, _, _, _, _, _, _, h7, h8, _⟩ := hr
    cases e
    have lt := HF1.out.lt
    have lp : p < W1.drew.heap.size := by
      have a := hy.lt
      have b := HFr1.out.2.1
      show p < W1.heap.size
      omega
    have lt' : b < W1.drew.heap.size := lt
    have hp2 : p ≠ g2 := by rcases h7 with ⟨e, _⟩ | ⟨e, _⟩ <;> omega
    refine ⟨q.1, q.2, ?_, ?_⟩
    · have k := (HF1.out.drewN 1).of_eq (h8 b lt' (by rcases h7 with ⟨e, _⟩ | ⟨e, _⟩ <;> omega))
      exact k.c0
    · exact (cell_of_heap (h8 p lp hp2) 0).trans zy0)
  have HV := Lib.hid wv
  have H0 := Lib.hid v0
  have nW : (((w.setCell ⟨b, 2, none⟩ (.int .i8 0)).setCell ⟨b, 3, none⟩ (.int .u8 1)).setCell ⟨b, 4, none⟩ (.bool sy)).setCell ⟨b, 6, none⟩ (.int .i32 ey) = W1 := hW1.symm
  clear hW1 h hO hy hv hfar hO1 hv1
  go_enter Tryz.func36, Tryz.ntmps36
  go_wp2_with fail
  clear nW np y0 y3 y4 y5 y6 c2 c3 c4 c6 f2 f3 f4 f6
  go_region_with (go_at_call 54; refine HS.out.mono ?_; rintro e w2 ⟨r, rfl, g2, c2, k2, f2, rfl, hN2⟩; obtain ⟨h5, h6, h7, h8⟩ := HQ.out w2 g2 c2 k2 ⟨g2, c2, k2, f2, rfl, hN2⟩)
  all_goals
    have q0 : (w2.setCell ⟨b, 5, none⟩ (.slice (some ⟨g2, 0, none⟩) k2 c2)).cell? ⟨b, 0, none⟩ = some (.int .u32 2400) := by rw [World.cell?_setCell_other _ _ _ _ (by simp)]; exact h7
    have q9 : (w2.setCell ⟨b, 5, none⟩ (.slice (some ⟨g2, 0, none⟩) k2 c2)).cell? ⟨p, 0, none⟩ = some (.int .u32 53) := by rw [cell_of_heap (heap_set_far (Ne.symm hbp) _ _)]; exact h8
    have hN3 : NatR W1.drew w2 (.slice (some ⟨g2, 0, none⟩) k2 c2) g c 1 (num (fun _ => v) 1) := ⟨g2, c2, k2, f2, rfl, hN2⟩
    have HFr3 := Lib.hid ((fr_nat (HFr1.out.drewN 1) hN3).setB 5 (.slice (some ⟨g2, 0, none⟩) k2 c2))
    have hsz : w.heap.size ≤ W1.drew.heap.size := HFr1.out.2.1
    have HN : Hid (∃ g' c' f, .slice (some ⟨g2, 0, none⟩) k2 c2 = Value.slice (some ⟨g', 0, none⟩) 1 c' ∧ Flt (w2.setCell ⟨b, 5, none⟩ (.slice (some ⟨g2, 0, none⟩) k2 c2)) b 2400 0 1 sy (.slice (some ⟨g', 0, none⟩) 1 c') ey ∧ Blk (w2.setCell ⟨b, 5, none⟩ (.slice (some ⟨g2, 0, none⟩) k2 c2)) g' c' f ∧ f 0 = v ∧ 1 ≤ c' ∧ b ≠ g' ∧ (g' = g ∧ c' = c ∨ w.heap.size ≤ g' ∧ c' ≤ 5)) := Lib.hid (by
      obtain ⟨n1, n2, n3, n4, n5, n6, n7, n8, n9⟩ := hN2
      rw [num_one] at n4
      have k1 : k2 = 1 := by
        rcases Nat.eq_zero_or_pos k2 with e | e
        · subst e
          exact absurd n4.symm H0.out
        · omega
      subst k1
      have lt : b < W1.drew.heap.size := HF1.out.lt
      have hg : b ≠ g2 := by rcases n7 with ⟨e, _⟩ | ⟨e, _⟩ <;> omega
      refine ⟨g2, c2, f2, rfl, ((HF1.out.drewN 1).of_eq (n8 b lt hg)).s5 _, n1.of_eq (heap_set_far (Ne.symm hg) _ _), by simpa [num] using n4, n3, hg, ?_⟩
      rcases n7 with e | ⟨e1, e2⟩
      · exact Or.inl e
      · exact Or.inr ⟨Nat.le_trans hsz e1, e2⟩)
    generalize w2.setCell ⟨b, 5, none⟩ (.slice (some ⟨g2, 0, none⟩) k2 c2) = W3 at *
    clear hN2 hN3 h5 h6 h7 h8 HQ z0 z5 zy5 zy0
    go_wp2_with fail
    go_quiet (fail)
    go_wp2
    go_ret
    obtain ⟨g', c', f, _, a1, a2, a3, a4, a5, a6⟩ := HN.out
    exact ⟨rfl, g', c', f, a1.drewN _, a2.drewN _, a3, a4, a5, a6, HFr3.out.drewN _⟩
end Go.Proofs.YtmkdcnemocdefaaGreatFmt

namespace Go.Proofs.YtmkdcnemocdefaaGreatFmt
open Go.RowKit

/-- A new number of p bits, rounded off a mantissa. -/
def SetP (w w' : World) (r p : Nat) (neg : Bool) (q : Nat) (ex : Int) : Prop :=
  ∃ g c f acc E W, RndW q p (64 - p) W ex E ∧ Flt w' r p acc 1 neg (.slice (some ⟨g, 0, none⟩) 1 c) E ∧ Blk w' g c f ∧ 1 ≤ c ∧ f 0 = W ∧ r ≠ g ∧ w.heap.size ≤ g ∧ Fr w w' r w.heap.size

set_option maxRecDepth 20000 in
set_option maxHeartbeats 4000000 in
theorem setP_any (r b p gy n cy : Nat) (a2 ey : Int) (sy : Bool) (f : Nat → Nat) (w : World) (h : Flt w r p 0 0 false (.slice none 0 0) 0) (hy : Flt w b 2400 a2 1 sy (.slice (some ⟨gy, 0, none⟩) n cy) ey) (hv : Blk w gy cy f) (wf : Wds f n) (hn1 : 1 ≤ n) (hn : n ≤ 38) (nc : n ≤ cy) (ht : 9223372036854775808 ≤ f (n - 1)) (hrb : r ≠ b) (hrg : r ≠ gy) (hp1 : 1 ≤ p) (hp : p ≤ 53) (hex : -100000 ≤ ey ∧ ey ≤ 100000) :
    Calls Tryz.prog 36 #[.pointer (some ⟨r, 0, none⟩), .pointer (some ⟨b, 0, none⟩)] w fun e w' => e = .returned (.pointer (some ⟨r, 0, none⟩)) ∧ SetP w w' r p sy (keptQ (num f n) (64 * n - p)) ey := by
  have y0 := hy.c0
  have y3 := hy.c3
  have y4 := hy.c4
  have y5 := hy.c5
  have y6 := hy.c6
  have c2 := h.c2
  have c3 := h.c3
  have c4 := h.c4
  have c6 := h.c6
  have f2 := h.fr 2
  have f3 := h.fr 3
  have f4 := h.fr 4
  have f6 := h.fr 6
  have lr := h.lt
  have np : ∀ v, (binOp .neq 27 (.pointer (some ⟨r, 0, none⟩)) (.pointer (some ⟨b, 0, none⟩))).run Tryz.prog (w.setCell ⟨r, 2, none⟩ v) = .ok (.bool true) (w.setCell ⟨r, 2, none⟩ v) := fun v =>
    fptr_neq r b hrb _ _ _ (heap_set h 2 _) ((heap_set_far (Ne.symm hrb) _ _).trans hy)
  obtain ⟨W1, hW1⟩ : ∃ W1, W1 = (((w.setCell ⟨r, 2, none⟩ (.int .i8 0)).setCell ⟨r, 3, none⟩ (.int .u8 1)).setCell ⟨r, 4, none⟩ (.bool sy)).setCell ⟨r, 6, none⟩ (.int .i32 ey) := ⟨_, rfl⟩
  have hfar : ∀ k, k ≠ r → W1.heap[k]? = w.heap[k]? := fun k hk => by rw [hW1, heap_set_far hk, heap_set_far hk, heap_set_far hk, heap_set_far hk]
  have hsz1 : W1.heap.size = w.heap.size := by rw [hW1]; simp [World.size_setCell]
  have HF1 : Hid (Flt W1 r p 0 1 sy (.slice none 0 0) ey) := Lib.hid (by rw [hW1]; exact (((h.s2 0).s3 1).s4 sy).s6 ey)
  have HFr1 : Hid (Fr w W1 r w.heap.size) := Lib.hid (by rw [hW1]; exact ((((Fr.refl w r w.heap.size).setB 2 (.int .i8 0)).setB 3 (.int .u8 1)).setB 4 (.bool sy)).setB 6 (.int .i32 ey))
  have hO1 : Old W1.drew (.slice none 0 0) w.heap.size 0 := Or.inl ⟨rfl, rfl⟩
  have hv1 : Blk W1.drew gy cy f := hv.of_eq (show W1.drew.heap[gy]? = _ from hfar gy (Ne.symm hrg))
  have HS := Lib.hid (set_any (.slice none 0 0) w.heap.size 0 gy cy n f W1.drew hO1 (fun j hj => by rw [Nat.zero_add]; exact hv1.cell j (by omega)) wf (Or.inr (by omega)) hn1 (by omega))
  have z0 := HF1.out.c0
  have z5 := HF1.out.c5
  have zy5 : W1.cell? ⟨b, 5, none⟩ = some (.slice (some ⟨gy, 0, none⟩) n cy) := (cell_of_heap (hfar b (Ne.symm hrb)) 5).trans y5
  have zy0 : W1.cell? ⟨b, 0, none⟩ = some (.int .u32 2400) := (cell_of_heap (hfar b (Ne.symm hrb)) 0).trans y0
  have lb := hy.lt
  have HQ : Hid (∀ w2 g2 c2 k2, NatR W1.drew w2 (.slice (some ⟨g2, 0, none⟩) k2 c2) w.heap.size 0 n (num f n) → w2.cell? ⟨r, 5, none⟩ = some (.slice none 0 0) ∧ w2.frozen? ⟨r, 5, none⟩ = false ∧ w2.cell? ⟨r, 0, none⟩ = some (.int .u32 (p : Int)) ∧ w2.cell? ⟨b, 0, none⟩ = some (.int .u32 2400)) := Lib.hid (fun w2 g2 c2 k2 hr => by
    obtain ⟨g', c', k', f', e, _, _, _, _, _, _, h7, h8, _⟩ := hr
    cases e
    have lr1 : r < W1.drew.heap.size := by show r < W1.heap.size; omega
    have lb1 : b < W1.drew.heap.size := by show b < W1.heap.size; omega
    have hs : W1.drew.heap.size = W1.heap.size := rfl
    have gr : r ≠ g2 := by rcases h7 with ⟨e, _⟩ | ⟨e, _⟩ <;> omega
    have gb : b ≠ g2 := by rcases h7 with ⟨e, _⟩ | ⟨e, _⟩ <;> omega
    have q := (HF1.out.drewN 1).of_eq (h8 r lr1 gr)
    exact ⟨q.c5, q.fr 5, q.c0, (cell_of_heap (h8 b lb1 gb) 0).trans zy0⟩)
  have HL := Lib.hid (lo_of_top hn1 ht)
  have HT : Hid (f (n - 1) ≠ 0) := Lib.hid (by omega)
  have p0 : ¬ ((p : Int) = 0) := by omega
  have p1 : (p : Int) < 2400 := by omega
  have nW : (((w.setCell ⟨r, 2, none⟩ (.int .i8 0)).setCell ⟨r, 3, none⟩ (.int .u8 1)).setCell ⟨r, 4, none⟩ (.bool sy)).setCell ⟨r, 6, none⟩ (.int .i32 ey) = W1 := hW1.symm
  clear hW1 h hO1 hy hv hfar hv1 ht wf
  go_enter Tryz.func36, Tryz.ntmps36
  go_wp2_with fail
  clear nW np y0 y3 y4 y5 y6 c2 c3 c4 c6 f2 f3 f4 f6
  go_region_with (go_at_call 54; refine HS.out.mono ?_; rintro e w2 ⟨v, rfl, g2, c2, k2, f2, rfl, hN2⟩; obtain ⟨h5, h6, h7, h8⟩ := HQ.out w2 g2 c2 k2 ⟨g2, c2, k2, f2, rfl, hN2⟩)
  all_goals
    have q0 : (w2.setCell ⟨r, 5, none⟩ (.slice (some ⟨g2, 0, none⟩) k2 c2)).cell? ⟨r, 0, none⟩ = some (.int .u32 (p : Int)) := by rw [World.cell?_setCell_other _ _ _ _ (by simp)]; exact h7
    have q9 : (w2.setCell ⟨r, 5, none⟩ (.slice (some ⟨g2, 0, none⟩) k2 c2)).cell? ⟨b, 0, none⟩ = some (.int .u32 2400) := by rw [cell_of_heap (heap_set_far (Ne.symm hrb) _ _)]; exact h8
    have hN3 : NatR W1.drew w2 (.slice (some ⟨g2, 0, none⟩) k2 c2) w.heap.size 0 n (num f n) := ⟨g2, c2, k2, f2, rfl, hN2⟩
    have HFr3 := Lib.hid ((fr_nat (HFr1.out.drewN 1) hN3).setB 5 (.slice (some ⟨g2, 0, none⟩) k2 c2))
    have HN : Hid (Flt (w2.setCell ⟨r, 5, none⟩ (.slice (some ⟨g2, 0, none⟩) k2 c2)) r p 0 1 sy (.slice (some ⟨g2, 0, none⟩) n c2) ey ∧ Blk (w2.setCell ⟨r, 5, none⟩ (.slice (some ⟨g2, 0, none⟩) k2 c2)) g2 c2 f2 ∧ k2 = n ∧ n ≤ c2 ∧ r ≠ g2 ∧ w.heap.size ≤ g2 ∧ Wds f2 n ∧ num f2 n = num f n ∧ 9223372036854775808 ≤ f2 (n - 1)) := Lib.hid (by
      obtain ⟨n1, n2, n3, n4, n5, n6, n7, n8, n9⟩ := hN2
      have k1 : k2 = n := by
        have := num_len (f := f) (g := f2) (k := n) (n := k2) (by rw [n4]; omega) n2 hn1 HT.out
        omega
      subst k1
      have hs : W1.drew.heap.size = W1.heap.size := rfl
      have hg : w.heap.size ≤ g2 := by rcases n7 with ⟨e, e2⟩ | ⟨e, _⟩ <;> omega
      have hrg2 : r ≠ g2 := by omega
      have lr1 : r < W1.drew.heap.size := by show r < W1.heap.size; omega
      refine ⟨((HF1.out.drewN 1).of_eq (n8 r lr1 hrg2)).s5 _, n1.of_eq (heap_set_far (Ne.symm hrg2) _ _), rfl, n3, hrg2, hg, n2, n4, ?_⟩
      exact top_ge hn1 n2 (by rw [n4]; exact HL.out))
    generalize w2.setCell ⟨r, 5, none⟩ (.slice (some ⟨g2, 0, none⟩) k2 c2) = W3 at *
    clear hN2 hN3 h5 h6 h7 h8 HQ z0 z5 zy5 zy0
    have HRn : Hid (∀ m, Calls Tryz.prog 30 #[.pointer (some ⟨r, 0, none⟩), .int .u64 0] (W3.drewN m) fun e w' => e = .returned (.tuple #[]) ∧ SetP w w' r p sy (keptQ (num f n) (64 * n - p)) ey) := Lib.hid (fun m => by
      obtain ⟨a1, a2, a3, a4, a5, a6, a7, a8, a9⟩ := HN.out
      refine (round_p r g2 n c2 p 0 ey sy f2 (W3.drewN m) (a1.drewN m) (a2.drewN m) a5 hn1 (by omega) a4 a7 hp1 hp a9 hex).mono ?_
      rintro e w' ⟨rfl, W, E, d1, f3, acc3, d2, d3, d4, d5⟩
      rw [a8] at d1
      exact ⟨rfl, g2, c2, f3, acc3, E, W, d1, d2, d3, by omega, d4, a5, a6, (HFr3.out.drewN m).trans d5 (Or.inr a6)⟩)
    go_wp2_with fail
    go_quiet (fail)
    go_wp2_with fail
    refine (HRn.out _).mono ?_; rintro e w5 ⟨rfl, hp5⟩
    have HP5 := Lib.hid hp5
    clear hp5
    go_wp2
    go_ret
    exact ⟨rfl, HP5.out⟩
end Go.Proofs.YtmkdcnemocdefaaGreatFmt
