/- The reference's labels: plain laws. -/
import Derived.Test.YthbekddpnkammaaGreatDoorLeast
namespace Go.Proofs.YthbekddpnkammaaGreatDoor
open Go.RowKit

section
variable {lit : Nat → Bool} {wide n : Nat}
/-- While the least numbers go round. -/
def IP (lit : Nat → Bool) (wide n : Nat) (L : Nat → Nat) : Prop := ∀ k, k < n → (lit k = false → L k = 0) ∧ (lit k = true → ∃ j, L k = j + 1 ∧ j ≤ k ∧ Conn lit wide n j k)
def L0F (lit : Nat → Bool) (i : Nat) : Nat → Nat := fun j => if j < i ∧ lit j = true then j + 1 else 0
theorem L0F_zero (j : Nat) : L0F lit 0 j = 0 := if_neg (by omega)
theorem L0F_lit {i : Nat} (h : lit i = true) (j : Nat) : putF (L0F lit i) i (i + 1) j = L0F lit (i + 1) j := by
  unfold putF L0F
  by_cases c : j = i
  · subst c; rw [if_pos rfl, if_pos ⟨by omega, h⟩]
  · rw [if_neg c]
    by_cases d : j < i ∧ lit j = true
    · rw [if_pos d, if_pos ⟨by omega, d.2⟩]
    · rw [if_neg d, if_neg (fun g => d ⟨by omega, g.2⟩)]
theorem L0F_dark {i : Nat} (h : lit i = false) (j : Nat) : L0F lit i j = L0F lit (i + 1) j := by
  unfold L0F
  by_cases d : j < i ∧ lit j = true
  · rw [if_pos d, if_pos ⟨by omega, d.2⟩]
  · rw [if_neg d, if_neg (fun g => by
      by_cases e : j = i
      · rw [e, h] at g; cases g.2
      · exact d ⟨by omega, g.2⟩)]
theorem IP.start : IP lit wide n (L0F lit n) := by
  intro k hk
  refine ⟨fun h => if_neg (fun g => by rw [h] at g; cases g.2), fun h => ⟨k, if_pos ⟨hk, h⟩, Nat.le_refl _, Conn.refl h hk⟩⟩
theorem IP.pos {L : Nat → Nat} (h : IP lit wide n L) {k : Nat} (hk : k < n) : 0 < L k ↔ lit k = true := by
  cases hl : lit k with
  | false => have := (h k hk).1 hl; simp; omega
  | true => obtain ⟨j, e, _⟩ := (h k hk).2 hl; simp; omega
theorem IP.le {L : Nat → Nat} (h : IP lit wide n L) {k : Nat} (hk : k < n) : L k ≤ n := by
  cases hl : lit k with
  | false => have := (h k hk).1 hl; omega
  | true => obtain ⟨j, e, _⟩ := (h k hk).2 hl; omega
/-- No neighbour has less. -/
def St (lit : Nat → Bool) (wide n : Nat) (L : Nat → Nat) (i : Nat) : Prop := lit i = true → ∀ j, Adj wide n i j → lit j = true → L i ≤ L j
theorem St.stay {L : Nat → Nat} (h : IP lit wide n L) {i b : Nat} (hP : leastP L wide n i 3 0 b) (hb : ¬ b < L i) : St lit wide n L i := by
  intro _ j ha hj
  have := hP.all ha ((h.pos ha.2.1).2 hj)
  omega
theorem IP.step (hw : 0 < wide) {L : Nat → Nat} (h : IP lit wide n L) {i b : Nat} (hi : i < n) (hl : lit i = true) (hP : leastP L wide n i 3 0 b) (hb : b < L i) : IP lit wide n (putF L i b) := by
  intro k hk
  by_cases e : k = i
  · subst e
    rw [putF_same]
    refine ⟨fun h0 => (by rw [hl] at h0; cases h0), fun _ => ?_⟩
    obtain ⟨j0, e0, j1, _⟩ := (h k hk).2 hl
    rcases hP.1 with e | ⟨j, ha, hj, e⟩
    · omega
    · obtain ⟨j', e', j2, c⟩ := (h j ha.2.1).2 ((h.pos ha.2.1).1 hj)
      exact ⟨j', by omega, by omega, c.step (ha.symm hw) hl⟩
  · rw [putF_other _ _ e]; exact h k hk
theorem IP.root (hw : 0 < wide) {L : Nat → Nat} (h : IP lit wide n L) (hS : ∀ i, i < n → St lit wide n L i) {r k : Nat} (hr : Root lit wide n r) (hc : Conn lit wide n r k) : L k = r + 1 := by
  have same : ∀ a, Conn lit wide n r a → L a = L r := by
    intro a ha
    induction ha with
    | refl _ _ => rfl
    | step h1 h2 h3 ih =>
      have a1 := hS _ h2.1 h1.lit2.1 _ h2 h3
      have a2 := hS _ h2.2.1 h3 _ (h2.symm hw) h1.lit2.1
      omega
  rw [same k hc]
  obtain ⟨j, e, hj, c⟩ := (h r hr.2.1).2 hr.1
  rcases Nat.lt_or_ge j r with g | g
  · exact absurd c (hr.2.2 j g)
  · omega

/-! ### the sum of a row -/
def sumF (L : Nat → Nat) : Nat → Nat
  | 0 => 0
  | j + 1 => sumF L j + L j
def cellN (v : Option Value) : Nat := match v with
  | some (.int _ z) => z.toNat
  | _ => 0
def sumW (w : World) (g : Nat) : Nat → Nat
  | 0 => 0
  | j + 1 => sumW w g j + cellN (w.cell? ⟨g, j, none⟩)
theorem sumW_eq {w : World} {g n : Nat} {L : Nat → Nat} (h : OutC w g n L) : ∀ j, j ≤ n → sumW w g j = sumF L j := by
  intro j
  induction j with
  | zero => intro _; rfl
  | succ j ih =>
    intro hj
    rw [sumW, sumF, ih (by omega), (h j (by omega)).1]
    rfl
theorem sumF_put {L : Nat → Nat} {i b m : Nat} (hi : i < m) : sumF (putF L i b) m + L i = sumF L m + b := by
  have same : ∀ j, j ≤ i → sumF (putF L i b) j = sumF L j := by
    intro j
    induction j with
    | zero => intro _; rfl
    | succ j ih => intro hj; rw [sumF, sumF, ih (by omega), putF_other _ _ (by omega)]
  have key : ∀ d, sumF (putF L i b) (i + 1 + d) + L i = sumF L (i + 1 + d) + b := by
    intro d
    induction d with
    | zero => rw [Nat.add_zero, sumF, sumF, same i (Nat.le_refl _), putF_same]; omega
    | succ d ih => rw [show i + 1 + (d + 1) = i + 1 + d + 1 by omega, sumF, sumF, putF_other _ _ (by omega)]; omega
  have := key (m - (i + 1))
  rwa [show i + 1 + (m - (i + 1)) = m by omega] at this

/-! ### numbered anew -/
def RK (lit : Nat → Bool) (wide n i k : Nat) (Z : Nat → Int) : Prop := ∀ k', k' < n → (lit k' = false → Z k' = 0) ∧ ∀ r, Root lit wide n r → Conn lit wide n r k' →
  (r < i → Z k' = -((rc lit wide n (r + 1) : Nat) : Int)) ∧ (r = i → k' < k → Z k' = -((rc lit wide n (i + 1) : Nat) : Int)) ∧ (i ≤ r → (r ≠ i ∨ k ≤ k') → Z k' = (r : Int) + 1)
theorem root_le {r k : Nat} (h : Root lit wide n r) (c : Conn lit wide n r k) (hw : 0 < wide) : r ≤ k := by
  rcases Nat.lt_or_ge k r with g | g
  · exact absurd (c.symm hw) (h.2.2 k g)
  · exact g
theorem RK.start (hw : 0 < wide) {L : Nat → Nat} (h : IP lit wide n L) (hS : ∀ i, i < n → St lit wide n L i) : RK lit wide n 0 0 (fun k => (L k : Int)) := by
  intro k hk
  refine ⟨fun h0 => by show (L k : Int) = 0; have := (h k hk).1 h0; omega, fun r hr hc => ⟨fun h => absurd h (Nat.not_lt_zero _), fun _ h => absurd h (Nat.not_lt_zero _), fun _ _ => ?_⟩⟩
  show (L k : Int) = r + 1
  have := h.root hw hS hr hc
  omega
theorem RK.pass {i : Nat} {Z : Nat → Int} (h : RK lit wide n i 0 Z) (hi : i < n) (hne : Z i ≠ (i : Int) + 1) : RK lit wide n (i + 1) 0 Z ∧ ¬ Root lit wide n i := by
  have hn : ¬ Root lit wide n i := fun hr => hne (((h i hi).2 i hr (Conn.refl hr.1 hi)).2.2 (Nat.le_refl _) (Or.inr (Nat.zero_le _)))
  refine ⟨fun k hk => ⟨(h k hk).1, fun r hr hc => ?_⟩, hn⟩
  obtain ⟨a, b, c⟩ := (h k hk).2 r hr hc
  have hri : r ≠ i := fun e => hn (e ▸ hr)
  exact ⟨fun g => a (by omega), fun g => by omega, fun g _ => c (by omega) (Or.inl hri)⟩
theorem RK.isRoot {i k : Nat} {Z : Nat → Int} (h : RK lit wide n i k Z) {k' : Nat} (hk : k' < n) (he : Z k' = (i : Int) + 1) : Root lit wide n i ∧ Conn lit wide n i k' := by
  cases hl : lit k' with
  | false => have := (h k' hk).1 hl; omega
  | true =>
    obtain ⟨r, hr, hc, _⟩ := root_exists hl hk
    obtain ⟨a, b, c⟩ := (h k' hk).2 r hr hc
    rcases Nat.lt_trichotomy r i with g | g | g
    · have := a g; omega
    · subst g; exact ⟨hr, hc⟩
    · have := c (by omega) (Or.inl (by omega)); omega
theorem RK.enter (hw : 0 < wide) {i : Nat} {Z : Nat → Int} (h : RK lit wide n i 0 Z) : RK lit wide n i i Z := by
  intro k hk
  refine ⟨(h k hk).1, fun r hr hc => ?_⟩
  obtain ⟨a, b, c⟩ := (h k hk).2 r hr hc
  refine ⟨a, fun g g2 => ?_, fun g g2 => c g (Or.inr (Nat.zero_le _))⟩
  subst g
  have := root_le hr hc hw
  omega
def putZ (M : Nat → Int) (i : Nat) (x : Int) : Nat → Int := fun j => if j = i then x else M j
theorem putZ_same (M : Nat → Int) (i : Nat) (x : Int) : putZ M i x i = x := if_pos rfl
theorem putZ_other (M : Nat → Int) {i j : Nat} (x : Int) (h : j ≠ i) : putZ M i x j = M j := if_neg h
theorem RK.hit (hw : 0 < wide) {i k : Nat} {Z : Nat → Int} (h : RK lit wide n i k Z) (hk : k < n) (he : Z k = (i : Int) + 1) : RK lit wide n i (k + 1) (putZ Z k (-((rc lit wide n (i + 1) : Nat) : Int))) := by
  obtain ⟨ri, ci⟩ := h.isRoot hk he
  intro k' hk'
  by_cases e : k' = k
  · subst e
    rw [putZ_same]
    refine ⟨fun hl => (by have := ci.lit2.1; rw [hl] at this; cases this), fun r hr hc => ?_⟩
    obtain rfl := root_one hw ri hr ci hc
    exact ⟨fun g => absurd g (Nat.lt_irrefl _), fun _ _ => rfl, fun _ g => by omega⟩
  · rw [putZ_other _ _ e]
    refine ⟨(h k' hk').1, fun r hr hc => ?_⟩
    obtain ⟨a, b, c⟩ := (h k' hk').2 r hr hc
    exact ⟨a, fun g g2 => b g (by omega), fun g g2 => c g (by omega)⟩
theorem RK.miss {i k : Nat} {Z : Nat → Int} (h : RK lit wide n i k Z) (hne : Z k ≠ (i : Int) + 1) : RK lit wide n i (k + 1) Z := by
  intro k' hk'
  refine ⟨(h k' hk').1, fun r hr hc => ?_⟩
  obtain ⟨a, b, c⟩ := (h k' hk').2 r hr hc
  refine ⟨a, fun g g2 => ?_, fun g g2 => c g (by omega)⟩
  by_cases e : k' = k
  · subst e
    subst g
    exact absurd (c (Nat.le_refl _) (Or.inr (Nat.le_refl _))) hne
  · exact b g (by omega)
theorem RK.leave {i : Nat} {Z : Nat → Int} (h : RK lit wide n i n Z) : RK lit wide n (i + 1) 0 Z := by
  intro k hk
  refine ⟨(h k hk).1, fun r hr hc => ?_⟩
  obtain ⟨a, b, c⟩ := (h k hk).2 r hr hc
  refine ⟨fun g => ?_, fun _ g => absurd g (Nat.not_lt_zero _), fun g _ => c (by omega) (Or.inl (by omega))⟩
  by_cases e : r = i
  · subst e; exact b rfl hk
  · exact a (by omega)
theorem RK.labels {Z : Nat → Int} (h : RK lit wide n n 0 Z) : Labels lit wide n (fun k => -(Z k)) := by
  intro k hk
  refine ⟨fun hl => by show -(Z k) = 0; have := (h k hk).1 hl; omega, fun r hr hc => ?_⟩
  show -(Z k) = _
  have := ((h k hk).2 r hr hc).1 hr.2.1
  omega
theorem FI.labels {M : Nat → Nat} (h : FI lit wide n n M) : Labels lit wide n (fun k => (M k : Int)) := by
  intro k hk
  obtain ⟨h1, h2⟩ := h k hk
  refine ⟨fun hl => ?_, fun r hr hc => ?_⟩
  · show (M k : Int) = 0
    rcases Nat.eq_zero_or_pos (M k) with g | g
    · omega
    · obtain ⟨r, _, _, c, _⟩ := h1 (by omega)
      have := c.lit2.1
      rw [hl] at this; cases this
  · show (M k : Int) = _
    have := h2 r hr hr.2.1 hc
    omega
end

/-! ### rows of ints that are written -/
def OutZ (w : World) (g n : Nat) (Z : Nat → Int) : Prop := ∀ j, j < n → w.cell? ⟨g, j, none⟩ = some (.int .i64 (Z j)) ∧ w.frozen? ⟨g, j, none⟩ = false
theorem OutC.toZ {w : World} {g n : Nat} {M : Nat → Nat} (h : OutC w g n M) : OutZ w g n (fun j => (M j : Int)) := h
theorem OutC.congr {w : World} {g n : Nat} {M N : Nat → Nat} (h : OutC w g n M) (e : ∀ j, j < n → M j = N j) : OutC w g n N := fun j hj => by rw [← e j hj]; exact h j hj
theorem OutZ.congr {w : World} {g n : Nat} {M N : Nat → Int} (h : OutZ w g n M) (e : ∀ j, j < n → M j = N j) : OutZ w g n N := fun j hj => by rw [← e j hj]; exact h j hj
theorem OutZ.put {w : World} {g n : Nat} {M : Nat → Int} (h : OutZ w g n M) {i : Nat} (hi : i < n) (x : Int) : OutZ (w.setCell ⟨g, i, none⟩ (.int .i64 x)) g n (putZ M i x) := by
  intro j hj
  refine ⟨?_, ?_⟩
  · by_cases c : j = i
    · subst c
      rw [putZ_same]
      exact World.cell?_setCell_same _ _ _ (h j hj).1
    · rw [putZ_other _ _ c, World.cell?_setCell_other _ _ _ _ (by intro e; injection e; omega)]
      exact (h j hj).1
  · rw [World.frozen?_setCell]; exact (h j hj).2
def WZ (w : World) (B n : Nat) (M : Nat → Int) (wr : World) : Prop := OutZ wr B n M ∧ Below B w wr ∧ B < wr.heap.size ∧ w.heap.size = B
theorem WR.toZ {w wr : World} {B n : Nat} {M : Nat → Nat} (h : WR w B n M wr) : WZ w B n (fun j => (M j : Int)) wr := h
theorem WZ.put {w wr : World} {B n : Nat} {M : Nat → Int} (h : WZ w B n M wr) {i : Nat} (hi : i < n) (x : Int) : WZ w B n (putZ M i x) (wr.setCell ⟨B, i, none⟩ (.int .i64 x)) :=
  ⟨h.1.put hi x, h.2.1.setCell (Nat.le_refl _) _, by simpa using h.2.2.1, h.2.2.2⟩
theorem WZ.congr {w wr : World} {B n : Nat} {M N : Nat → Int} (h : WZ w B n M wr) (e : ∀ j, j < n → M j = N j) : WZ w B n N wr := ⟨h.1.congr e, h.2⟩
theorem WR.congr {w wr : World} {B n : Nat} {M N : Nat → Nat} (h : WR w B n M wr) (e : ∀ j, j < n → M j = N j) : WR w B n N wr := ⟨h.1.congr e, h.2⟩
end Go.Proofs.YthbekddpnkammaaGreatDoor
