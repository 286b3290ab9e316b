/- The reference's runes are the model's, but for those that are none. -/
import Derived.Test.YtpkifhmnibepiaaDoorRunesR
namespace Go.Proofs.YtpkifhmnibepiaaDoor
open Go.RowKit

theorem tailV_none {s : ByteArray} {i : Nat} : tailV s i < 0 ↔ ¬ (i < s.size ∧ 128 ≤ bt s i ∧ bt s i < 192) := by
  unfold tailV; split <;> omega
theorem rAt_wide (s : ByteArray) (i : Nat) : 1 ≤ (rAt s i).2 ∧ (rAt s i).2 ≤ 4 := by
  unfold rAt rF
  generalize (bt s i : Int) = c
  generalize tailV s (i + 1) = x1
  generalize tailV s (i + 2) = x2
  generalize tailV s (i + 3) = x3
  repeat' split
  all_goals exact ⟨by simp, by simp⟩
def Ct (s : ByteArray) (i k : Nat) : Prop := i + k < s.size ∧ bt s (i + k) / 64 = 2
theorem ct_b {s : ByteArray} {i k : Nat} (h : Ct s i k) : (decide (i + k < s.size) && (s.get! (i + k)).toNat / 64 == 2) = true := by
  have h2 : (s.get! (i + k)).toNat / 64 = 2 := h.2
  rw [Bool.and_eq_true]
  exact ⟨decide_eq_true h.1, beq_iff_eq.2 h2⟩
theorem ct_n {s : ByteArray} {i k : Nat} (h : ¬ Ct s i k) : (decide (i + k < s.size) && (s.get! (i + k)).toNat / 64 == 2) = false := by
  cases e : (decide (i + k < s.size) && (s.get! (i + k)).toNat / 64 == 2) with
  | false => rfl
  | true =>
    rw [Bool.and_eq_true] at e
    exact absurd ⟨of_decide_eq_true e.1, beq_iff_eq.1 e.2⟩ h
theorem dec1 {s : ByteArray} {i : Nat} (h : bt s i < 128) : Utf8.decode s i = (bt s i, 1) := if_pos h
theorem dec2 {s : ByteArray} {i : Nat} (h : bt s i / 32 = 6) (h1 : Ct s i 1) : Utf8.decode s i = if bt s i % 32 * 64 + bt s (i + 1) % 64 ≥ 128 then (bt s i % 32 * 64 + bt s (i + 1) % 64, 2) else (65533, 1) := by
  refine (if_neg (show ¬ bt s i < 128 by omega)).trans ?_
  refine (if_pos ?_).trans ?_
  · rw [Bool.and_eq_true]; exact ⟨beq_iff_eq.2 h, ct_b h1⟩
  · rfl
def Vd (v : Int) : Prop := (0 ≤ v ∧ v < 55296) ∨ (57344 ≤ v ∧ v ≤ 1114111)
theorem vd_b {v : Int} : Utf8.valid v = true ↔ Vd v := by
  unfold Utf8.valid Vd
  rw [Bool.or_eq_true, Bool.and_eq_true, Bool.and_eq_true, decide_eq_true_iff, decide_eq_true_iff, decide_eq_true_iff, decide_eq_true_iff]
def v3 (s : ByteArray) (i : Nat) : Nat := bt s i % 16 * 4096 + bt s (i + 1) % 64 * 64 + bt s (i + 2) % 64
def v4 (s : ByteArray) (i : Nat) : Nat := bt s i % 8 * 262144 + bt s (i + 1) % 64 * 4096 + bt s (i + 2) % 64 * 64 + bt s (i + 3) % 64
theorem cond_b {p q : Bool} {P Q : Prop} (hp : p = true ↔ P) (hq : q = true ↔ Q) {α : Type} (x y : α) [Decidable (P ∧ Q)] : (if (p && q) = true then x else y) = if P ∧ Q then x else y := by
  by_cases c : P ∧ Q
  · rw [if_pos c, if_pos (by rw [Bool.and_eq_true]; exact ⟨hp.2 c.1, hq.2 c.2⟩)]
  · rw [if_neg c, if_neg (by rw [Bool.and_eq_true]; exact fun h => c ⟨hp.1 h.1, hq.1 h.2⟩)]
open Classical in
theorem dec3 {s : ByteArray} {i : Nat} (h : bt s i / 16 = 14) (h1 : Ct s i 1) (h2 : Ct s i 2) : Utf8.decode s i = if 2048 ≤ v3 s i ∧ Vd (v3 s i) then (v3 s i, 3) else (65533, 1) := by
  refine (if_neg (show ¬ bt s i < 128 by omega)).trans ?_
  refine (if_neg ?_).trans ?_
  · rw [Bool.and_eq_true]; exact fun e => absurd (beq_iff_eq.1 e.1) (show ¬ bt s i / 32 = 6 by omega)
  refine (if_pos ?_).trans ?_
  · rw [Bool.and_eq_true, Bool.and_eq_true]; exact ⟨⟨beq_iff_eq.2 h, ct_b h1⟩, ct_b h2⟩
  · exact cond_b decide_eq_true_iff vd_b _ _
open Classical in
theorem dec4 {s : ByteArray} {i : Nat} (h : bt s i / 8 = 30) (h1 : Ct s i 1) (h2 : Ct s i 2) (h3 : Ct s i 3) : Utf8.decode s i = if 65536 ≤ v4 s i ∧ Vd (v4 s i) then (v4 s i, 4) else (65533, 1) := by
  refine (if_neg (show ¬ bt s i < 128 by omega)).trans ?_
  refine (if_neg ?_).trans ?_
  · rw [Bool.and_eq_true]; exact fun e => absurd (beq_iff_eq.1 e.1) (show ¬ bt s i / 32 = 6 by omega)
  refine (if_neg ?_).trans ?_
  · rw [Bool.and_eq_true, Bool.and_eq_true]; exact fun e => absurd (beq_iff_eq.1 e.1.1) (show ¬ bt s i / 16 = 14 by omega)
  refine (if_pos ?_).trans ?_
  · rw [Bool.and_eq_true, Bool.and_eq_true, Bool.and_eq_true]; exact ⟨⟨⟨beq_iff_eq.2 h, ct_b h1⟩, ct_b h2⟩, ct_b h3⟩
  · exact cond_b decide_eq_true_iff vd_b _ _
theorem dec0 {s : ByteArray} {i : Nat} (h : ¬ bt s i < 128) (h2 : ¬ (bt s i / 32 = 6 ∧ Ct s i 1)) (h3 : ¬ (bt s i / 16 = 14 ∧ Ct s i 1 ∧ Ct s i 2)) (h4 : ¬ (bt s i / 8 = 30 ∧ Ct s i 1 ∧ Ct s i 2 ∧ Ct s i 3)) : Utf8.decode s i = (65533, 1) := by
  have cc : ∀ k, (decide (i + k < s.size) && (s.get! (i + k)).toNat / 64 == 2) = true → Ct s i k := fun k e => by
    rw [Bool.and_eq_true] at e
    exact ⟨of_decide_eq_true e.1, beq_iff_eq.1 e.2⟩
  refine (if_neg h).trans ?_
  refine (if_neg ?_).trans ?_
  · rw [Bool.and_eq_true]; exact fun e => h2 ⟨beq_iff_eq.1 e.1, cc 1 e.2⟩
  refine (if_neg ?_).trans ?_
  · rw [Bool.and_eq_true, Bool.and_eq_true]; exact fun e => h3 ⟨beq_iff_eq.1 e.1.1, cc 1 e.1.2, cc 2 e.2⟩
  refine (if_neg ?_).trans ?_
  · rw [Bool.and_eq_true, Bool.and_eq_true, Bool.and_eq_true]; exact fun e => h4 ⟨beq_iff_eq.1 e.1.1.1, cc 1 e.1.1.2, cc 2 e.1.2, cc 3 e.2⟩
  · rfl
theorem tailV_ct {s : ByteArray} {i k : Nat} (h : Ct s i k) : tailV s (i + k) = (bt s (i + k) : Int) % 64 ∧ 0 ≤ tailV s (i + k) := by
  obtain ⟨h1, h2⟩ := h
  unfold tailV
  rw [if_pos (by omega)]
  omega
theorem tailV_nct {s : ByteArray} {i k : Nat} (h : ¬ Ct s i k) : tailV s (i + k) = -1 := by
  unfold tailV
  rw [if_neg (fun c => h ⟨c.1, by omega⟩)]
/-- What is none on both sides. -/
def Agree (p : Int × Int) (q : Nat × Nat) : Prop := p.2 = (q.2 : Int) ∧ (p.1 = (q.1 : Int) ∨ (q.1 = 65533 ∧ p.1 = -1))
theorem agree_none : Agree (-1, 1) (65533, 1) := ⟨rfl, Or.inr ⟨rfl, rfl⟩⟩
theorem agree_of {p : Int × Int} {q : Nat × Nat} (h1 : p = ((q.1 : Int), (q.2 : Int))) : Agree p q := ⟨by rw [h1], Or.inl (by rw [h1])⟩
theorem rAt_decode (s : ByteArray) (i : Nat) : Agree (rAt s i) (Utf8.decode s i) := by
  have hb0 : bt s i < 256 := (s.get! i).toNat_lt
  unfold rAt rF
  by_cases a0 : bt s i < 128
  · rw [dec1 a0, if_pos (by omega)]; exact agree_of rfl
  rw [if_neg (by omega)]
  by_cases c1 : Ct s i 1
  · obtain ⟨t1, t1'⟩ := tailV_ct c1
    by_cases a1 : bt s i < 194 ∨ 244 < bt s i
    · rw [if_pos (by omega)]
      by_cases b2 : bt s i / 32 = 6
      · rw [dec2 b2 c1, if_neg (by omega)]; exact agree_none
      · by_cases b4 : bt s i / 8 = 30 ∧ Ct s i 2 ∧ Ct s i 3
        · rw [dec4 b4.1 c1 b4.2.1 b4.2.2, if_neg (by unfold Vd v4; omega)]; exact agree_none
        · rw [dec0 a0 (fun h => b2 h.1) (fun h => by omega) (fun h => b4 ⟨h.1, h.2.2⟩)]; exact agree_none
    · rw [if_neg (by omega)]
      by_cases a2 : bt s i < 224
      · rw [if_pos (by omega), dec2 (by omega) c1, if_pos (by omega), t1]
        exact agree_of (Prod.ext (by simp only; omega) rfl)
      · rw [if_neg (by omega)]
        by_cases c2 : Ct s i 2
        · obtain ⟨t2, t2'⟩ := tailV_ct c2
          rw [if_neg (by omega)]
          by_cases a3 : bt s i < 240
          · rw [if_pos (by omega), dec3 (by omega) c1 c2]
            by_cases q : 2048 ≤ v3 s i ∧ Vd (v3 s i)
            · rw [if_pos q, if_neg (by unfold Vd v3 at q; omega)]
              exact agree_of (Prod.ext (by unfold v3; simp only; omega) rfl)
            · rw [if_neg q, if_pos (by unfold Vd v3 at q; omega)]; exact agree_none
          · rw [if_neg (by omega)]
            by_cases c3 : Ct s i 3
            · obtain ⟨t3, t3'⟩ := tailV_ct c3
              rw [if_neg (by omega), dec4 (by omega) c1 c2 c3]
              by_cases q : 65536 ≤ v4 s i ∧ Vd (v4 s i)
              · rw [if_pos q, if_neg (by unfold Vd v4 at q; omega)]
                exact agree_of (Prod.ext (by unfold v4; simp only; omega) rfl)
              · rw [if_neg q, if_pos (by unfold Vd v4 at q; omega)]; exact agree_none
            · rw [if_pos (by rw [tailV_nct c3]; decide), dec0 a0 (fun h => by omega) (fun h => by omega) (fun h => c3 h.2.2.2)]; exact agree_none
        · rw [if_pos (by rw [tailV_nct c2]; decide), dec0 a0 (fun h => by omega) (fun h => c2 h.2.2) (fun h => c2 h.2.2.1)]; exact agree_none
  · rw [if_pos (Or.inr (Or.inr (by rw [tailV_nct c1]; decide))), dec0 a0 (fun h => c1 h.2) (fun h => c1 h.2.1) (fun h => c1 h.2.1)]; exact agree_none
end Go.Proofs.YtpkifhmnibepiaaDoor
