/- Spots: what is known of a part when some pixels have been looked at: plain laws. -/
import Derived.Test.YthbekddpnkammaaGreatDoorLit
namespace Go.Proofs.YthbekddpnkammaaGreatDoor
open Go.RowKit

structure Sp where
  L : Int
  T : Int
  R : Int
  Lo : Int
  P : Int
  Li : Int
  X : Int
  Y : Int
  SL : Int
def Sp.nil : Sp := ⟨0, 0, 0, 0, 0, 0, 0, 0, 0⟩
instance : Inhabited Sp := ⟨Sp.nil⟩
/-- The nine numbers of a spot. -/
def Sp.fld (s : Sp) : Nat → Int
  | 0 => s.L
  | 1 => s.T
  | 2 => s.R
  | 3 => s.Lo
  | 4 => s.P
  | 5 => s.Li
  | 6 => s.X
  | 7 => s.Y
  | _ => s.SL
def Sp.put (s : Sp) (c : Nat) (v : Int) : Sp := ⟨if c = 0 then v else s.L, if c = 1 then v else s.T, if c = 2 then v else s.R, if c = 3 then v else s.Lo, if c = 4 then v else s.P, if c = 5 then v else s.Li, if c = 6 then v else s.X, if c = 7 then v else s.Y, if c = 8 then v else s.SL⟩
theorem fld_put (s : Sp) {c d : Nat} (v : Int) (hc : c < 9) (hd : d < 9) : (s.put c v).fld d = if d = c then v else s.fld d := by
  rcases d with _ | _ | _ | _ | _ | _ | _ | _ | _ | d
  case succ.succ.succ.succ.succ.succ.succ.succ.succ => omega
  all_goals
    rcases c with _ | _ | _ | _ | _ | _ | _ | _ | _ | c
    case succ.succ.succ.succ.succ.succ.succ.succ.succ => omega
    all_goals rfl
/-- The cells of a row of spots. -/
def cellZ (S : Nat → Sp) (j : Nat) : Int := (S (j / 9)).fld (j % 9)
theorem cellZ_at (S : Nat → Sp) (p : Nat) {c : Nat} (hc : c < 9) : cellZ S (p * 9 + c) = (S p).fld c := by
  unfold cellZ
  rw [show (p * 9 + c) / 9 = p by omega, show (p * 9 + c) % 9 = c by omega]
def setS (S : Nat → Sp) (p : Nat) (s : Sp) (q : Nat) : Sp := if q = p then s else S q
theorem cellZ_put (S : Nat → Sp) (p : Nat) {c : Nat} (hc : c < 9) (v : Int) (j : Nat) : putZ (cellZ S) (p * 9 + c) v j = cellZ (setS S p ((S p).put c v)) j := by
  unfold putZ cellZ setS
  by_cases h : j = p * 9 + c
  · rw [if_pos h, h, show (p * 9 + c) / 9 = p by omega, show (p * 9 + c) % 9 = c by omega, if_pos rfl, fld_put _ _ hc hc, if_pos rfl]
  · rw [if_neg h]
    by_cases h2 : j / 9 = p
    · rw [if_pos h2, fld_put _ _ hc (Nat.mod_lt _ (by decide)), if_neg (by omega), h2]
    · rw [if_neg h2]
theorem OutZ.field {w : World} {g m : Nat} {S : Nat → Sp} (h : OutZ w g (m * 9) (cellZ S)) {p : Nat} (hp : p < m) {c : Nat} (hc : c < 9) (v : Int) : OutZ (w.setCell ⟨g, p * 9 + c, none⟩ (.int .i64 v)) g (m * 9) (cellZ (setS S p ((S p).put c v))) :=
  (h.put (by omega) v).congr (fun j _ => cellZ_put S p hc v j)
theorem OutZ.cell9 {w : World} {g m : Nat} {S : Nat → Sp} (h : OutZ w g (m * 9) (cellZ S)) {p : Nat} (hp : p < m) {c : Nat} (hc : c < 9) : w.cell? ⟨g, p * 9 + c, none⟩ = some (.int .i64 ((S p).fld c)) ∧ w.frozen? ⟨g, p * 9 + c, none⟩ = false := by
  have := h (p * 9 + c) (by omega)
  rwa [cellZ_at S p hc] at this
theorem setS_setS (S : Nat → Sp) (p : Nat) (s t : Sp) : setS (setS S p s) p t = setS S p t := by
  funext q
  unfold setS
  split <;> rfl
theorem setS_same (S : Nat → Sp) (p : Nat) (s : Sp) : setS S p s p = s := if_pos rfl

theorem setS_self (S : Nat → Sp) (p : Nat) : setS S p (S p) = S := by
  funext q
  unfold setS
  split
  · rename_i h; rw [h]
  · rfl
theorem OutZ.fieldS {w : World} {g m o p : Nat} {S : Nat → Sp} {s : Sp} (ho : o = p * 9) (hp : p < m) (c : Nat) (hc : c < 9) {v : Int} (h : OutZ w g (m * 9) (cellZ (setS S p s))) : OutZ (w.setCell ⟨g, o + c, none⟩ (.int .i64 v)) g (m * 9) (cellZ (setS S p (s.put c v))) := by
  subst ho
  have := h.field hp hc v
  rwa [setS_same, setS_setS] at this
theorem OutZ.field0 {w : World} {g m o p : Nat} {S : Nat → Sp} {s : Sp} (ho : o = p * 9) (hp : p < m) {v : Int} (h : OutZ w g (m * 9) (cellZ (setS S p s))) : OutZ (w.setCell ⟨g, o, none⟩ (.int .i64 v)) g (m * 9) (cellZ (setS S p (s.put 0 v))) := OutZ.fieldS ho hp 0 (by decide) h
theorem OutZ.drew1 {w : World} {g n : Nat} {Z : Nat → Int} (h : OutZ w g n Z) : OutZ w.drew g n Z := h
theorem OutZ.drewN1 {w : World} {g n q : Nat} {Z : Nat → Int} (h : OutZ w g n Z) : OutZ (w.drewN q) g n Z := fun j hj => by simpa using h j hj

theorem cells9 {w : World} {g m p : Nat} {S : Nat → Sp} {a0 a1 a2 a3 a4 a5 a6 a7 a8 : Int} (hp : p < m) (h : OutZ w g (m * 9) (cellZ (setS S p ⟨a0, a1, a2, a3, a4, a5, a6, a7, a8⟩))) :
    (w.cell? ⟨g, p * 9, none⟩ = some (.int .i64 a0) ∧ w.cell? ⟨g, p * 9 + 1, none⟩ = some (.int .i64 a1) ∧ w.cell? ⟨g, p * 9 + 2, none⟩ = some (.int .i64 a2) ∧ w.cell? ⟨g, p * 9 + 3, none⟩ = some (.int .i64 a3) ∧ w.cell? ⟨g, p * 9 + 4, none⟩ = some (.int .i64 a4) ∧ w.cell? ⟨g, p * 9 + 5, none⟩ = some (.int .i64 a5) ∧ w.cell? ⟨g, p * 9 + 6, none⟩ = some (.int .i64 a6) ∧ w.cell? ⟨g, p * 9 + 7, none⟩ = some (.int .i64 a7) ∧ w.cell? ⟨g, p * 9 + 8, none⟩ = some (.int .i64 a8)) ∧
    w.frozen? ⟨g, p * 9, none⟩ = false ∧ w.frozen? ⟨g, p * 9 + 1, none⟩ = false ∧ w.frozen? ⟨g, p * 9 + 2, none⟩ = false ∧ w.frozen? ⟨g, p * 9 + 3, none⟩ = false ∧ w.frozen? ⟨g, p * 9 + 4, none⟩ = false ∧ w.frozen? ⟨g, p * 9 + 5, none⟩ = false ∧ w.frozen? ⟨g, p * 9 + 6, none⟩ = false ∧ w.frozen? ⟨g, p * 9 + 7, none⟩ = false ∧ w.frozen? ⟨g, p * 9 + 8, none⟩ = false := by
  have k : ∀ c, c < 9 → w.cell? ⟨g, p * 9 + c, none⟩ = some (.int .i64 ((⟨a0, a1, a2, a3, a4, a5, a6, a7, a8⟩ : Sp).fld c)) ∧ w.frozen? ⟨g, p * 9 + c, none⟩ = false := fun c hc => by
    have := h.cell9 hp hc
    rwa [setS_same] at this
  exact ⟨⟨(k 0 (by decide)).1, (k 1 (by decide)).1, (k 2 (by decide)).1, (k 3 (by decide)).1, (k 4 (by decide)).1, (k 5 (by decide)).1, (k 6 (by decide)).1, (k 7 (by decide)).1, (k 8 (by decide)).1⟩, (k 0 (by decide)).2, (k 1 (by decide)).2, (k 2 (by decide)).2, (k 3 (by decide)).2, (k 4 (by decide)).2, (k 5 (by decide)).2, (k 6 (by decide)).2, (k 7 (by decide)).2, (k 8 (by decide)).2⟩

section
variable (W : Nat) (l : Nat → Int) (M : Nat → Nat)
/-- A spot that begins at a pixel. -/
def firstS (i : Nat) : Sp := ⟨(i % W : Nat), (i / W : Nat), (i % W : Nat), (i / W : Nat), 0, 0, 0, 0, 0⟩
/-- One pixel more. -/
def addS (i : Nat) (s : Sp) : Sp := ⟨min s.L (i % W : Nat), s.T, max s.R (i % W : Nat), (i / W : Nat), s.P + 1, s.Li + l i, s.X + (1024 * (i % W : Nat) + 512) * l i, s.Y + (1024 * (i / W : Nat) + 512) * l i, s.SL⟩
def updS (i : Nat) (s : Sp) : Sp := addS W l i (if s.P = 0 then firstS W i else s)
/-- Part p + 1 when i pixels have been looked at. -/
def stS (p : Nat) : Nat → Sp
  | 0 => Sp.nil
  | i + 1 => if M i = p + 1 then updS W l i (stS p i) else stS p i
theorem stS_hit {p i : Nat} (h : M i = p + 1) : stS W l M p (i + 1) = updS W l i (stS W l M p i) := by rw [stS, if_pos h]
theorem stS_miss {p i : Nat} (h : M i ≠ p + 1) : stS W l M p (i + 1) = stS W l M p i := by rw [stS, if_neg h]
theorem stS_dark {i : Nat} (h : M i = 0) : (fun p => stS W l M p (i + 1)) = fun p => stS W l M p i := funext fun p => stS_miss W l M (by omega)
theorem stS_next {i p : Nat} (h : M i = p + 1) : (fun q => stS W l M q (i + 1)) = setS (fun q => stS W l M q i) p (updS W l i (stS W l M p i)) := by
  funext q
  unfold setS
  by_cases e : q = p
  · rw [if_pos e, e, stS_hit W l M h]
  · rw [if_neg e, stS_miss W l M (by omega)]
end
/-- How great a part's numbers are. -/
structure Bd (i : Nat) (s : Sp) : Prop where
  p0 : 0 ≤ s.P
  p1 : s.P ≤ i
  l0 : -65535 * (i : Int) ≤ s.Li
  l1 : s.Li ≤ 65535 * (i : Int)
  x0 : -17213161472 * (i : Int) ≤ s.X
  x1 : s.X ≤ 17213161472 * (i : Int)
  y0 : -17213161472 * (i : Int) ≤ s.Y
  y1 : s.Y ≤ 17213161472 * (i : Int)
theorem prod_bd {a b : Int} (h0 : 0 ≤ a) (h1 : a ≤ 262656) (h2 : -65535 ≤ b) (h3 : b ≤ 65535) : -17213161472 ≤ a * b ∧ a * b ≤ 17213161472 := by
  have e1 := Int.mul_le_mul_of_nonneg_left h3 h0
  have e2 := Int.mul_le_mul_of_nonneg_left h2 h0
  have e3 := Int.mul_le_mul_of_nonneg_right h1 (show (0 : Int) ≤ 65535 by decide)
  rw [Int.mul_neg] at e2
  omega
theorem Bd.add {W i : Nat} {l : Nat → Int} {s : Sp} (h : Bd i s) (hx : i % W ≤ 256) (hy : i / W ≤ 256) (h2 : -65535 ≤ l i) (h3 : l i ≤ 65535) : Bd (i + 1) (addS W l i s) := by
  obtain ⟨p0, p1, l0, l1, x0, x1, y0, y1⟩ := h
  have key : ∀ z : Nat, z ≤ 256 → -17213161472 ≤ (1024 * (z : Int) + 512) * l i ∧ (1024 * (z : Int) + 512) * l i ≤ 17213161472 := fun z hz => prod_bd (by omega) (by omega) h2 h3
  obtain ⟨u0, u1⟩ := key _ hx
  obtain ⟨v0, v1⟩ := key _ hy
  clear key
  unfold addS
  have hy0 : (0 : Int) ≤ ((i / W : Nat) : Int) := Int.natCast_nonneg _
  have hx0 : (0 : Int) ≤ ((i % W : Nat) : Int) := Int.natCast_nonneg _
  generalize (1024 * ((i % W : Nat) : Int) + 512) * l i = a at *
  generalize (1024 * ((i / W : Nat) : Int) + 512) * l i = b at *
  refine ⟨?_, ?_, ?_, ?_, ?_, ?_, ?_, ?_⟩
  all_goals
    simp only
    omega
theorem Bd.first (W i : Nat) : Bd i (firstS W i) := by
  refine ⟨?_, ?_, ?_, ?_, ?_, ?_, ?_, ?_⟩
  all_goals
    unfold firstS
    simp only
    omega
theorem Bd.start (W i : Nat) {s : Sp} (h : Bd i s) : Bd i (if s.P = 0 then firstS W i else s) := by
  split
  · exact Bd.first W i
  · exact h
theorem stS_bd {W n : Nat} {l : Nat → Int} {M : Nat → Nat} (hW : 1 ≤ W) (hW2 : W ≤ 256) (hH : ∀ i, i < n → i / W ≤ 256) (hl : ∀ i, i < n → -65535 ≤ l i ∧ l i ≤ 65535) (p : Nat) : ∀ i, i ≤ n → Bd i (stS W l M p i)
  | 0, _ => by
    show Bd 0 Sp.nil
    exact ⟨by decide, by decide, by decide, by decide, by decide, by decide, by decide, by decide⟩
  | i + 1, hi => by
    have ih := stS_bd (M := M) hW hW2 hH hl p i (by omega)
    by_cases c : M i = p + 1
    · rw [stS_hit _ _ _ c]
      exact (ih.start W).add (by have := Nat.mod_lt i (show 0 < W by omega); omega) (hH i (by omega)) (hl i (by omega)).1 (hl i (by omega)).2
    · rw [stS_miss _ _ _ c]
      obtain ⟨p0, p1, l0, l1, x0, x1, y0, y1⟩ := ih
      exact ⟨p0, by omega, by omega, by omega, by omega, by omega, by omega, by omega⟩
/-- The pixels of a part are lit: it is at least as bright as it has pixels. -/
theorem stS_light {W n : Nat} {l : Nat → Int} {M : Nat → Nat} (p : Nat) (hl : ∀ i, i < n → M i ≠ 0 → 1 ≤ l i) : ∀ i, i ≤ n → (stS W l M p i).P ≤ (stS W l M p i).Li
  | 0, _ => Int.le_refl _
  | i + 1, hi => by
    have ih := stS_light (W := W) p hl i (by omega)
    by_cases c : M i = p + 1
    · rw [stS_hit _ _ _ c]
      have h1 := hl i (by omega) (by omega)
      unfold updS addS
      split
      · show (0 : Int) + 1 ≤ 0 + l i
        omega
      · show (stS W l M p i).P + 1 ≤ (stS W l M p i).Li + l i
        omega
    · rw [stS_miss _ _ _ c]
      exact ih
/-- A spot with its middle. -/
def starS (s : Sp) : Sp := ⟨s.L, s.T, s.R, s.Lo, s.P, s.Li, s.X.tdiv s.Li, s.Y.tdiv s.Li, s.Li⟩
theorem tdiv_bd {a b c : Int} (hb : 1 ≤ b) (h1 : -c ≤ a) (h2 : a ≤ c) : -c ≤ a.tdiv b ∧ a.tdiv b ≤ c := by
  have h : (a.tdiv b).natAbs = a.natAbs / b.natAbs := Int.natAbs_tdiv a b
  have h3 : a.natAbs / b.natAbs ≤ a.natAbs := Nat.div_le_self _ _
  generalize a.natAbs / b.natAbs = q at *
  generalize a.tdiv b = r at *
  rcases Int.natAbs_eq r with h4 | h4 <;> rcases Int.natAbs_eq a with h5 | h5 <;> omega
end Go.Proofs.YthbekddpnkammaaGreatDoor
