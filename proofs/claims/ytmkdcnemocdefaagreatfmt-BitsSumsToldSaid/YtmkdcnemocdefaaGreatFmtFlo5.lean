/- The tail of uadd and usub: the sum is normalized and rounded. -/
import Derived.Test.YtmkdcnemocdefaaGreatFmtFlo4
import Derived.Test.YtmkdcnemocdefaaGreatFmtNat3
import Derived.Deep.CutBlock
import Derived.Deep.DeepCutAuto
namespace Go.Proofs.YtmkdcnemocdefaaGreatFmt
open Go.RowKit

theorem Blk.row {w : World} {g c n : Nat} {f : Nat → Nat} (h : Blk w g c f) (hf : Wds f n) (h1 : 1 ≤ n) (hc : n ≤ c) (hn : n ≤ 800000) : Row w g c n f :=
  ⟨fun j hj => by rw [Nat.zero_add]; exact h.cell j (by omega), by obtain ⟨cs, a, _⟩ := h; exact ⟨cs, a⟩, hf, h1, hc, hn⟩
theorem Row.of_eq {w w' : World} {g c n : Nat} {f : Nat → Nat} (h : Row w g c n f) (e : w'.heap[g]? = w.heap[g]?) : Row w' g c n f :=
  ⟨fun j hj => by rw [cell_of_heap e]; exact h.wr j hj, by obtain ⟨cs, a⟩ := h.obj; exact ⟨cs, e.trans a⟩, h.wds, h.one, h.cap, h.small⟩
theorem Man.bound {K N n A S : Nat} (h : Man K N n A S) (B : Nat) (hS : S < 2 ^ B) : A + 64 * n ≤ K + B + 1 := by
  have a := h.size.1
  have b : 2 ^ (A + 64 * n - K) < 2 ^ (B + 1) := by rw [Nat.pow_succ]; omega
  have c := (Nat.pow_lt_pow_iff_right (by decide)).1 b
  have t := h.top
  omega
/-- What stands ahead of the tail: the mantissa is in its field, not yet normalized. -/
def Pre (K : Nat) (W : World) (b g c : Nat) (acc : Int) (neg : Bool) (ex0 : Int) (k A S : Nat) : Prop :=
  ∃ f, Flt W b 2400 acc 1 neg (.slice (some ⟨g, 0, none⟩) k c) ex0 ∧ Blk W g c f ∧ Wds f k ∧ 1 ≤ k ∧ k ≤ c ∧ f (k - 1) ≠ 0 ∧ num f k * 2 ^ A = S * 2 ^ K
/-- .. normalized, by s. -/
def Mid (K : Nat) (W : World) (b g c : Nat) (acc : Int) (neg : Bool) (ex0 : Int) (k A S : Nat) : Prop :=
  ∃ f, Flt W b 2400 acc 1 neg (.slice (some ⟨g, 0, none⟩) k c) ex0 ∧ Blk W g c f ∧ Wds f k ∧ k ≤ c ∧ Man K (num f k) k A S
theorem Pre.drewN {K : Nat} {W : World} {b g c k A S : Nat} {acc ex0 : Int} {neg : Bool} (h : Pre K W b g c acc neg ex0 k A S) (m : Nat) : Pre K (W.drewN m) b g c acc neg ex0 k A S := by
  obtain ⟨f, h1, h2, h3⟩ := h
  exact ⟨f, h1.drewN m, h2.drewN m, h3⟩
theorem tail_norm {K : Nat} {W : World} {b g c k A S : Nat} {acc ex0 : Int} {neg : Bool} (h : Pre K W b g c acc neg ex0 k A S) (hne : b ≠ g) (hk : k ≤ 1000000) (hA : 63 ≤ A) :
    Calls Tryz.prog 52 #[.slice (some ⟨g, 0, none⟩) k c] W fun e w' => ∃ s : Nat, e = .returned (.int .i64 (s : Int)) ∧ s ≤ 63 ∧ Mid K w' b g c acc neg ex0 k (A - s) S ∧ Only W w' g := by
  obtain ⟨f, h1, h2, h3, h4, h5, h6, h7⟩ := h
  refine (fnorm_any g k c f W h2 h4 h5 h3 h6 hk).mono ?_
  rintro e w' ⟨s, z, rfl, hs, hz, hw, ht, hb, ho⟩
  refine ⟨s, rfl, hs, ⟨z, h1.of_eq (ho.2.1 b hne), hb, hw, h5, ?_⟩, ho⟩
  refine ⟨?_, lo_of_top h4 ht, num_lt hw⟩
  rw [hz]
  exact val_shift h7 s (by omega)
theorem tail_exp {K : Nat} {W : World} {b g c k A S : Nat} {acc ex0 : Int} {neg : Bool} (h : Mid K W b g c acc neg ex0 k A S) (hne : b ≠ g) (hk : k ≤ 900000) (B : Nat) (hS : S < 2 ^ B) (hB : B ≤ 2300) (ex : Int) (hex : ex = ((A + 64 * k : Nat) - (K : Int) - 1074)) :
    Calls Tryz.prog 51 #[.pointer (some ⟨b, 0, none⟩), .int .i64 ex, .int .u64 0] W fun e w' => e = .returned (.tuple #[]) ∧ Fin K w' b g c 0 neg S ∧ Fr W w' b g := by
  obtain ⟨f, h1, h2, h3, h4, h5⟩ := h
  exact setExp_any K b g k c A S acc ex0 1 neg f W h1 h2 hne hk h4 h3 h5 (by have := h5.bound B hS; omega) ex hex
theorem Mid.c5 {K : Nat} {W : World} {b g c k A S : Nat} {acc ex0 : Int} {neg : Bool} (h : Mid K W b g c acc neg ex0 k A S) : W.cell? ⟨b, 5, none⟩ = some (.slice (some ⟨g, 0, none⟩) k c) := by
  obtain ⟨f, h1, _⟩ := h
  exact h1.c5
theorem Pre.c5 {K : Nat} {W : World} {b g c k A S : Nat} {acc ex0 : Int} {neg : Bool} (h : Pre K W b g c acc neg ex0 k A S) : W.cell? ⟨b, 5, none⟩ = some (.slice (some ⟨g, 0, none⟩) k c) := by
  obtain ⟨f, h1, _⟩ := h
  exact h1.c5
/-- The sum lands in the field. -/
theorem pre_of {K : Nat} {W W1 : World} {b g g0 c0 c k M N A S : Nat} {acc ex0 : Int} {neg : Bool} {v : Value} (hF : Flt W b 2400 acc 1 neg v ex0) (hne : b ≠ g0) (hlt : b < W.heap.size)
    (h : NatR W W1 (.slice (some ⟨g, 0, none⟩) k c) g0 c0 M N) (hv : N * 2 ^ A = S * 2 ^ K) (hS : S ≠ 0) :
    Pre K (W1.setCell ⟨b, 5, none⟩ (.slice (some ⟨g, 0, none⟩) k c)) b g c acc neg ex0 k A S ∧ b ≠ g ∧ k ≤ M ∧ (g = g0 ∧ c = c0 ∨ W.heap.size ≤ g ∧ c ≤ M + 4) := by
  obtain ⟨g', c', k', f, e, h1, h2, h3, h4, h5, h6, h7, h8, h9⟩ := h
  cases e
  have hg : b ≠ g := by
    rcases h7 with ⟨e, _⟩ | ⟨e, _⟩
    · rw [e]; exact hne
    · omega
  have hk1 : 1 ≤ k := by
    rcases Nat.eq_zero_or_pos k with e | e
    · subst e
      rw [← h4] at hv
      exact absurd (val_zero hv) hS
    · exact e
  refine ⟨⟨f, (hF.of_eq (h8 b hlt hg)).s5 _, h1.of_eq (heap_set_far (Ne.symm hg) _ _), h2, hk1, h3, ?_, by rw [h4]; exact hv⟩, hg, h6, h7⟩
  rcases h5 with e | e
  · omega
  · exact e
theorem fr_nat {w W W1 : World} {b g g2 k c2 c0 M N : Nat} (h : Fr w W b g) (hN : NatR W W1 (.slice (some ⟨g2, 0, none⟩) k c2) g c0 M N) : Fr w W1 b g := by
  obtain ⟨g', c', k', f, e, _, _, _, _, _, _, h7, h8, h9⟩ := hN
  cases e
  have s := (h9 0 (Nat.zero_le _) (Nat.zero_le _)).size
  have sw := h.2.1
  refine ⟨fun i hi h1 h2 => ?_, Nat.le_trans sw s, fun B h1 h2 h3 => (h.2.2 B h1 h2 h3).trans (h9 B ?_ (Nat.le_trans h3 sw))⟩
  · rw [h8 i (Nat.lt_of_lt_of_le hi sw) (by rcases h7 with ⟨e, _⟩ | ⟨e, _⟩ <;> omega)]
    exact h.1 i hi h1 h2
  · rcases h7 with ⟨e, _⟩ | ⟨e, _⟩ <;> omega
theorem fr_step {w W W1 : World} {b g g2 : Nat} (h : Fr w W b g) (k : Only W W1 g2) (hg : g2 = g ∨ w.heap.size ≤ g2) : Fr w W1 b g :=
  ⟨fun i hi h1 h2 => (k.2.1 i (by rcases hg with e | e <;> omega)).trans (h.1 i hi h1 h2), by rw [k.1]; exact h.2.1, fun B h1 h2 h3 => (h.2.2 B h1 h2 h3).trans (k.2.2.mono (by rcases hg with e | e <;> omega))⟩
/-- Behind the sum of the words. -/
def Post (K : Nat) (w wx : World) (b g c g2 c2 k2 : Nat) (acc : Int) (neg : Bool) (ex0 : Int) (A S : Nat) : Prop :=
  Pre K wx b g2 c2 acc neg ex0 k2 A S ∧ b ≠ g2 ∧ k2 ≤ 200 ∧ (g2 = g ∧ c2 = c ∨ w.heap.size ≤ g2 ∧ c2 ≤ 1000) ∧ Fr w wx b g
theorem post_of {K : Nat} {w W W1 : World} {b g c g2 c2 k2 M N A S : Nat} {acc ex0 : Int} {neg : Bool} {v : Value} (hF : Flt W b 2400 acc 1 neg v ex0) (hbg : b ≠ g) (hFr : Fr w W b g)
    (h : NatR W W1 (.slice (some ⟨g2, 0, none⟩) k2 c2) g c M N) (hM : M ≤ 200) (hv : N * 2 ^ A = S * 2 ^ K) (hS : S ≠ 0) : Post K w (W1.setCell ⟨b, 5, none⟩ (.slice (some ⟨g2, 0, none⟩) k2 c2)) b g c g2 c2 k2 acc neg ex0 A S := by
  obtain ⟨p1, p2, p3, p4⟩ := pre_of hF hbg hF.lt h hv hS
  refine ⟨p1, p2, by omega, ?_, (fr_nat hFr h).setB _ _⟩
  rcases p4 with e | ⟨e1, e2⟩
  · exact Or.inl e
  · exact Or.inr ⟨Nat.le_trans hFr.2.1 e1, by omega⟩
/-- The field, behind the sum of the words. -/
theorem field_of {W W1 : World} {b g c g2 c2 k2 M N prec : Nat} {acc ex0 : Int} {neg : Bool} {v : Value} (hF : Flt W b prec acc 1 neg v ex0) (hbg : b ≠ g) (h : NatR W W1 (.slice (some ⟨g2, 0, none⟩) k2 c2) g c M N) :
    W1.cell? ⟨b, 5, none⟩ = some v ∧ W1.frozen? ⟨b, 5, none⟩ = false := by
  obtain ⟨g', c', k', f', e, _, _, _, _, _, _, h7, h8, _⟩ := h
  cases e
  have lt := hF.lt
  have q := hF.of_eq (h8 b lt (by rcases h7 with ⟨e, _⟩ | ⟨e, _⟩ <;> omega))
  exact ⟨q.c5, q.fr 5⟩
/-- Behind a difference of the words: it may be nought. -/
def PostS (K : Nat) (w wx : World) (b g c g2 c2 k2 : Nat) (acc : Int) (neg : Bool) (ex0 : Int) (A S : Nat) : Prop :=
  b ≠ g2 ∧ k2 ≤ 200 ∧ (g2 = g ∧ c2 = c ∨ w.heap.size ≤ g2 ∧ c2 ≤ 1000) ∧ Fr w wx b g ∧ (S ≠ 0 → Pre K wx b g2 c2 acc neg ex0 k2 A S) ∧ (S = 0 → k2 = 0) ∧ ∃ f, Flt wx b 2400 acc 1 neg (.slice (some ⟨g2, 0, none⟩) k2 c2) ex0 ∧ Blk wx g2 c2 f
theorem posts_of {K : Nat} {w W W1 : World} {b g c g0 c0 g2 c2 k2 M N A S : Nat} {acc ex0 : Int} {neg : Bool} {v : Value} (hF : Flt W b 2400 acc 1 neg v ex0) (hbg : b ≠ g0) (hFr : Fr w W b g) (hg0 : g0 = g ∧ c0 = c ∨ w.heap.size ≤ g0 ∧ c0 ≤ 1000)
    (h : NatR W W1 (.slice (some ⟨g2, 0, none⟩) k2 c2) g0 c0 M N) (hM : M ≤ 200) (hv : N * 2 ^ A = S * 2 ^ K) : PostS K w (W1.setCell ⟨b, 5, none⟩ (.slice (some ⟨g2, 0, none⟩) k2 c2)) b g c g2 c2 k2 acc neg ex0 A S := by
  have hlt := hF.lt
  have hP := fun hS => pre_of hF hbg hlt h hv hS
  obtain ⟨g', c', k', f, e, h1, h2, h3, h4, h5, h6, h7, h8, h9⟩ := h
  cases e
  have sw := hFr.2.1
  have s1 := (h9 0 (Nat.zero_le _) (Nat.zero_le _)).size
  have hg : b ≠ g2 := by rcases h7 with ⟨e, _⟩ | ⟨e, _⟩ <;> omega
  have hgg : g2 = g ∧ c2 = c ∨ w.heap.size ≤ g2 ∧ c2 ≤ 1000 := by
    rcases h7 with ⟨e1, e2⟩ | ⟨e1, e2⟩
    · rw [e1, e2]; exact hg0
    · exact Or.inr ⟨by omega, by omega⟩
  have hFr1 : Fr w W1 b g := ⟨fun i hi k1 k2 => (h8 i (Nat.lt_of_lt_of_le hi sw) (by rcases hgg with ⟨e, _⟩ | ⟨e, _⟩ <;> omega)).trans (hFr.1 i hi k1 k2), Nat.le_trans sw s1,
    fun B b1 b2 b3 => (hFr.2.2 B b1 b2 b3).trans (h9 B (by rcases hgg with ⟨e, _⟩ | ⟨e, _⟩ <;> omega) (Nat.le_trans b3 sw))⟩
  refine ⟨hg, by omega, hgg, hFr1.setB _ _, fun hS => (hP hS).1, fun hS => ?_, f, (hF.of_eq (h8 b hlt hg)).s5 _, h1.of_eq (heap_set_far (Ne.symm hg) _ _)⟩
  rw [hS, Nat.zero_mul] at hv
  rcases Nat.mul_eq_zero.1 hv with e | e
  · rcases h5 with q | q
    · exact q
    · rcases Nat.eq_zero_or_pos k2 with z | z
      · exact z
      · exact absurd (num_eq_zero (h4.trans e) (k2 - 1) (by omega)) q
  · have : 0 < (2 : Nat) ^ A := Nat.two_pow_pos A
    omega
/-- A lesser number has no more words. -/
theorem num_len {f g : Nat → Nat} {k n : Nat} (h : num f k ≤ num g n) (hg : Wds g n) (hk : 1 ≤ k) (ht : f (k - 1) ≠ 0) : k ≤ n := by
  obtain ⟨m, rfl⟩ : ∃ m, k = m + 1 := ⟨k - 1, by omega⟩
  have l := num_lt hg
  rw [num] at h
  rw [show m + 1 - 1 = m by omega] at ht
  have a : 2 ^ (64 * m) ≤ f m * 2 ^ (64 * m) := Nat.le_mul_of_pos_left _ (Nat.pos_of_ne_zero ht)
  have b : 2 ^ (64 * m) < 2 ^ (64 * n) := by omega
  have c := (Nat.pow_lt_pow_iff_right (by decide)).1 b
  omega
end Go.Proofs.YtmkdcnemocdefaaGreatFmt

namespace Go.Proofs.YtmkdcnemocdefaaGreatFmt
open Go.RowKit

/-- Two numbers, as Add holds them: the sum at b (its words at g), the next one at p (its word at gy). -/
structure Pair (K B : Nat) (w : World) (b g c n p gy : Nat) (acc ay : Int) (sx sy : Bool) (f : Nat → Nat) (v A1 A2 S1 S2 : Nat) : Prop where
  fx : Flt w b 2400 acc 1 sx (.slice (some ⟨g, 0, none⟩) n c) ((A1 + 64 * n : Nat) - (K : Int) - 1074)
  fy : Flt w p 53 ay 1 sy (.slice (some ⟨gy, 0, none⟩) 1 1) ((A2 + 64 * 1 : Nat) - (K : Int) - 1074)
  bx : Blk w g c f
  bv : Blk w gy 1 (fun _ => v)
  wf : Wds f n
  wv : v < 2 ^ 64
  nc : n ≤ c
  n38 : n ≤ 38
  c3 : c ≤ 1000
  m1 : Man K (num f n) n A1 S1
  m2 : Man K v 1 A2 S2
  bg : b ≠ g
  bp : b ≠ p
  by' : b ≠ gy
  gp : g ≠ p
  gy' : g ≠ gy
  py : p ≠ gy
  sB : S1 + S2 < 2 ^ B
  hB : B ≤ 2300
  hK : 4000 ≤ K

theorem num_one (v : Nat) : num (fun _ => v) 1 = v := by simp [num]
/-- What of two numbers is known as numbers. -/
theorem Pair.nums {K B : Nat} {w : World} {b g c n p gy : Nat} {acc ay : Int} {sx sy : Bool} {f : Nat → Nat} {v A1 A2 S1 S2 : Nat} (h : Pair K B w b g c n p gy acc ay sx sy f v A1 A2 S1 S2) :
    1 ≤ n ∧ 1 ≤ S1 ∧ 1 ≤ S2 ∧ K + 1 ≤ A1 + 64 * n ∧ K + 1 ≤ A2 + 64 ∧ A1 + 64 * n ≤ K + 2301 ∧ A2 + 64 ≤ K + 2301 := by
  have a := h.m1.pos
  have b := h.m2.pos
  have s := h.sB
  have c := h.m1.bound B (by omega)
  have d := h.m2.bound B (by omega)
  have e := h.m1.top
  have q := h.m2.top
  have hB := h.hB
  refine ⟨a.2.2, a.2.1, b.2.1, e, by omega, by omega, by omega⟩
/-- What a sum comes to. -/
def SumR (K : Nat) (w w' : World) (b g c : Nat) (neg : Bool) (S : Nat) : Prop := ∃ g' c', Fin K w' b g' c' 0 neg S ∧ (g' = g ∧ c' = c ∨ w.heap.size ≤ g' ∧ c' ≤ 1000) ∧ Fr w w' b g
/-- What a difference comes to. -/
def SubR (K : Nat) (w w' : World) (b g c : Nat) (neg : Bool) (S : Nat) : Prop := ∃ g' c', ((S ≠ 0 ∧ Fin K w' b g' c' 0 neg S) ∨ (S = 0 ∧ ∃ k f ex, Flt w' b 2400 0 0 false (.slice (some ⟨g', 0, none⟩) k c') ex ∧ Blk w' g' c' f)) ∧ (g' = g ∧ c' = c ∨ w.heap.size ≤ g' ∧ c' ≤ 1000) ∧ b ≠ g' ∧ Fr w w' b g
end Go.Proofs.YtmkdcnemocdefaaGreatFmt
