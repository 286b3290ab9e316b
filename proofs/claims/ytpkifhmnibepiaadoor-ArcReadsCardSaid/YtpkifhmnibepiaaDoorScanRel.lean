/- The reference's scan against the program's: plain laws. -/
import Derived.Test.YtpkifhmnibepiaaDoorScanR3
namespace Go.Proofs.YtpkifhmnibepiaaDoor

section
variable {s : Nat → Int}
theorem wrB_keep {b x : Int} (h : 0 ≤ b) : wrB b x = b := if_neg (by omega)
theorem wrB_set {x : Int} : wrB (-1) x = x := if_pos (by decide)
theorem nb_keep {l c k : Nat} {b : Int} (h : 0 ≤ b) : nb l c b k = b := by unfold nb; split <;> simp [wrB_keep h]
theorem needB_keep {c b : Int} {k : Nat} (h : 0 ≤ b) : needB s c k b = b := by unfold needB; split <;> simp [wrB_keep h]
theorem numO_ok {l m a : Nat} {n : Int} {k : Nat} (h : numO s l m a = .ok n k) : k = a + cnt s m a ∧ n = numV s a (cnt s m a) ∧ nb l (cnt s m a) (-1) (a + cnt s m a) = -1 := by
  unfold numO at h
  split at h
  · cases h
  · rename_i hc
    injection h with h1 h2
    exact ⟨h2.symm, h1.symm, if_neg hc⟩
theorem numO_bad {l m a k : Nat} (h : numO s l m a = .bad k) : nb l (cnt s m a) (-1) (a + cnt s m a) = (k : Int) := by
  unfold numO at h
  split at h
  · rename_i hc
    injection h with h1
    unfold nb
    rw [if_pos hc, wrB_set, h1]
  · cases h
theorem sixtyR_keep {k : Nat} {b : Int} (h : 0 ≤ b) : (sixtyR s k b).2.2 = b := by
  unfold sixtyR; simp only; rw [nb_keep h, wrB_keep h]; split <;> rfl
theorem sixtyR_ok {k : Nat} {m : Int} {j : Nat} (h : sixtyO s k = .ok m j) : sixtyR s k (-1) = (m, j, -1) := by
  obtain ⟨h0, h1, hn⟩ := sixtyO_inv h
  obtain ⟨e1, e2, e3⟩ := numO_ok hn
  unfold sixtyR
  rw [← e2, e3, if_neg (by omega), e1]
theorem sixtyR_bad {k j : Nat} (h : sixtyO s k = .bad j) : (sixtyR s k (-1)).2.2 = (j : Int) := by
  unfold sixtyO at h
  split at h
  · rename_i j' hn
    injection h with h
    subst h
    have e := numO_bad hn
    have hc : cnt s 2 k < 2 := by
      unfold numO at hn
      split at hn
      · assumption
      · cases hn
    unfold sixtyR; simp only
    rw [e, wrB_keep (by omega)]
    split <;> rfl
  · rename_i n k' hn
    obtain ⟨e1, e2, e3⟩ := numO_ok hn
    split at h
    · rename_i h59
      injection h with h
      subst h
      unfold sixtyR; simp only
      rw [← e2, if_pos h59, e3, wrB_set]
    · cases h
theorem endR_keep {N k : Nat} {sc n b : Int} (h : 0 ≤ b) : (endR s N sc n k b).2.2 = b := by
  unfold endR; simp only; rw [needB_keep h, wrB_keep h]; split <;> rfl
theorem endR_ok {N k j : Nat} {sc n m : Int} (h : endO s N sc n k = .ok m j) : endR s N sc n k (-1) = (m, j, -1) := by
  unfold endO at h
  split at h
  · rename_i hs
    split at h
    · cases h
    · rename_i hl
      injection h with h1 h2
      unfold endR needB
      rw [if_neg hl, if_pos hs, h1, h2]
  · cases h
theorem endR_bad {N k j : Nat} {sc n : Int} (h : endO s N sc n k = .bad j) : (endR s N sc n k (-1)).2.2 = (j : Int) := by
  unfold endO at h
  split at h
  · rename_i hs
    split at h
    · rename_i hl
      injection h with h
      unfold endR needB; simp only
      rw [if_pos hl, if_pos hs, wrB_set, h]
    · cases h
  · rename_i hs
    injection h with h
    unfold endR needB; simp only
    rw [if_neg hs, wrB_set, wrB_keep (by omega), h]
    split <;> rfl
theorem secR_keep {N k : Nat} {sc n b : Int} (h : 0 ≤ b) : (secR s N sc n k b).2.2 = b := by
  have h6 := sixtyR_keep (s := s) (k := k) h
  unfold secR
  split
  · rw [endR_keep (by rw [h6, nb_keep h]; exact h), h6, nb_keep h]
  · rw [endR_keep (by rw [h6]; exact h), h6]
theorem secR_ok {N k j : Nat} {sc m n : Int} (h : secO s N sc m k = .ok n j) : secR s N sc (m * 60 * 1000000) k (-1) = (n, j, -1) := by
  unfold secO at h
  split at h
  · cases h
  · rename_i m2 k2 h2
    have e2 := sixtyR_ok h2
    split at h
    · rename_i hd
      split at h
      · cases h
      · rename_i p k3 h3
        unfold partO at h3
        split at h3
        · cases h3
        · rename_i p' k' hp
          obtain ⟨e3, e4, e5⟩ := numO_ok hp
          injection h3 with h3 h4
          rw [secR_dot e2 hd rfl rfl e5]
          have : k' - (k2 + 1) = cnt s 6 (k2 + 1) := by omega
          rw [this, e4] at h3
          rw [← e3, h3, h4, show m * 60 * 1000000 + m2 * 1000000 + p = m * 60000000 + m2 * 1000000 + p by omega]
          exact endR_ok h
    · rename_i hd
      rw [secR_no e2 hd, show m * 60 * 1000000 + m2 * 1000000 = m * 60000000 + m2 * 1000000 by omega]
      exact endR_ok h
theorem secR_bad {N k j : Nat} {sc m : Int} (h : secO s N sc m k = .bad j) : (secR s N sc (m * 60 * 1000000) k (-1)).2.2 = (j : Int) := by
  unfold secO at h
  split at h
  · rename_i j' h2
    injection h with h
    subst h
    have e2 := sixtyR_bad h2
    unfold secR
    split
    · rw [endR_keep (by rw [e2, nb_keep (by omega)]; omega), e2, nb_keep (by omega)]
    · rw [endR_keep (by rw [e2]; omega), e2]
  · rename_i m2 k2 h2
    have e2 := sixtyR_ok h2
    split at h
    · rename_i hd
      split at h
      · rename_i j' h3
        injection h with h
        subst h
        unfold partO at h3
        split at h3
        · rename_i j'' hp
          injection h3 with h3
          subst h3
          rw [secR_dot e2 hd rfl rfl (numO_bad hp), endR_keep (by omega)]
        · cases h3
      · rename_i p k3 h3
        unfold partO at h3
        split at h3
        · cases h3
        · rename_i p' k' hp
          obtain ⟨e3, e4, e5⟩ := numO_ok hp
          injection h3 with h3 h4
          rw [secR_dot e2 hd rfl rfl e5]
          have : k' - (k2 + 1) = cnt s 6 (k2 + 1) := by omega
          rw [this, e4] at h3
          rw [← e3, h3, h4, show m * 60 * 1000000 + m2 * 1000000 + p = m * 60000000 + m2 * 1000000 + p by omega]
          exact endR_bad h
    · rename_i hd
      rw [secR_no e2 hd, show m * 60 * 1000000 + m2 * 1000000 = m * 60000000 + m2 * 1000000 by omega]
      exact endR_bad h
theorem restR_keep {N k : Nat} {mn sc b : Int} (h : 0 ≤ b) : (restR s N mn sc k b).2.2 = b := by
  unfold restR; rw [if_pos (Or.inr h)]
end

theorem seeF_lt {N : Nat} {L : Nat → Int} {k : Nat} {c : Int} (hc : 0 ≤ c) (h : seeF N L k = c) : k < N := by
  by_cases d : k < N
  · exact d
  · rw [seeF_out d] at h; omega
theorem restR_ok {N k j : Nat} {L : Nat → Int} {mn sc n : Int} (hm : 0 ≤ mn) (hk : k ≤ N) (h : restO (seeF N L) N mn sc k = .ok n j) : restR (seeF N L) N mn sc k (-1) = (n, j, -1) := by
  unfold restO at h
  split at h
  · rename_i he
    injection h with h1 h2
    unfold restR
    rw [if_pos (Or.inl (by omega)), h1, h2]
  · rename_i he
    have h0 : ¬ (N ≤ k ∨ (0 : Int) ≤ -1) := fun h => h.elim (by omega) (by decide)
    split at h
    · cases h
    · rename_i m k1 h6
      have e6 := sixtyR_ok h6
      split at h
      · rename_i hy
        have hb : needB (seeF N L) mn k1 (-1) = -1 := if_pos hy
        have hlt := seeF_lt hm hy
        split at h
        · rename_i hN
          injection h with h1 h2
          rw [restR_end h0 e6 hb (Or.inl (by omega)), ← h1, ← h2, show m * 60 * 1000000 = m * 60000000 by omega]
        · rename_i hN
          rw [restR_sec h0 e6 hb (fun h => h.elim (by omega) (by decide))]
          exact secR_ok h
      · cases h
theorem restR_bad {N k j : Nat} {L : Nat → Int} {mn sc : Int} (hm : 0 ≤ mn) (hk : k ≤ N) (h : restO (seeF N L) N mn sc k = .bad j) : (restR (seeF N L) N mn sc k (-1)).2.2 = (j : Int) := by
  unfold restO at h
  split at h
  · cases h
  · rename_i he
    have h0 : ¬ (N ≤ k ∨ (0 : Int) ≤ -1) := fun h => h.elim (by omega) (by decide)
    split at h
    · rename_i j' h6
      injection h with h
      subst h
      have e6 := sixtyR_bad h6
      have hb : needB (seeF N L) mn (sixtyR (seeF N L) k (-1)).2.1 (sixtyR (seeF N L) k (-1)).2.2 = (j' : Int) := by rw [e6, needB_keep (by omega)]
      unfold restR
      rw [if_neg h0, if_pos (Or.inr (by rw [hb]; omega))]
      exact hb
    · rename_i m k1 h6
      have e6 := sixtyR_ok h6
      split at h
      · rename_i hy
        have hb : needB (seeF N L) mn k1 (-1) = -1 := if_pos hy
        have hlt := seeF_lt hm hy
        split at h
        · cases h
        · rename_i hN
          rw [restR_sec h0 e6 hb (fun h => h.elim (by omega) (by decide))]
          exact secR_bad h
      · rename_i hy
        injection h with h
        subst h
        have hb : needB (seeF N L) mn k1 (-1) = (k1 : Int) := by unfold needB; rw [if_neg hy, wrB_set]
        rw [restR_end h0 e6 hb (Or.inr (by omega))]
/-- A reading's answer, as the reference gives it. -/
def refO : Out → Int × Int × Int
  | .ok n _ => (n, 0, -1)
  | .bad x => (0, 1, x)
theorem rest_keep' {s : Nat → Int} {N k c : Nat} {mn sc un b : Int} (h : 0 ≤ b) : (restR s N mn sc k (needB s un c b)).2.2 = b := by
  rw [needB_keep h, restR_keep h]
/-- degrees. -/
theorem deg_rel {N k0 : Nat} {L : Nat → Int} {o : Out} (ho : o = match numO (seeF N L) 1 6 k0 with | .bad k => .bad k | .ok d k => if seeF N L k = 176 then (match restO (seeF N L) N 8242 8243 (k + 1) with | .bad k => .bad k | .ok n k => .ok (d * 3600 * 1000000 + n) k) else .bad k)
    {c : Nat} {d b1 b2 : Int} (hc : cnt (seeF N L) 6 k0 = c) (hd : numV (seeF N L) k0 c = d) (hb1 : nb 1 c (-1) (k0 + c) = b1) (hb2 : needB (seeF N L) 176 (k0 + c) b1 = b2) {R : Int × Nat × Int} (hR : restR (seeF N L) N 8242 8243 (k0 + c + 1) b2 = R) :
    (∃ j, o = .ok (d * 3600 * 1000000 + R.1) j ∧ R.2.2 = -1) ∨ ∃ x : Nat, o = .bad x ∧ R.2.2 = (x : Int) := by
  subst hc hd hb1 hb2 hR
  cases hn : numO (seeF N L) 1 6 k0 with
  | bad x =>
    rw [hn] at ho
    refine Or.inr ⟨x, ho, ?_⟩
    rw [numO_bad hn, rest_keep' (by omega)]
  | ok d k =>
    rw [hn] at ho
    obtain ⟨e1, e2, e3⟩ := numO_ok hn
    rw [e3, ← e1, ← e2]
    by_cases hy : seeF N L k = 176
    · have hlt := seeF_lt (by decide) hy
      have hb : needB (seeF N L) 176 k (-1) = -1 := if_pos hy
      rw [hb]
      simp only [if_pos hy] at ho
      cases hr : restO (seeF N L) N 8242 8243 (k + 1) with
      | bad x =>
        rw [hr] at ho
        exact Or.inr ⟨x, ho, restR_bad (by decide) hlt hr⟩
      | ok n j =>
        rw [hr] at ho
        rw [restR_ok (by decide) hlt hr]
        exact Or.inl ⟨j, ho, rfl⟩
    · simp only [if_neg hy] at ho
      have hb : needB (seeF N L) 176 k (-1) = (k : Int) := by unfold needB; rw [if_neg hy, wrB_set]
      rw [hb, restR_keep (by omega)]
      exact Or.inr ⟨k, ho, rfl⟩
/-- hours. -/
theorem hou_rel {N : Nat} {L : Nat → Int} {c : Nat} {d b1 b1' b2 : Int} (hc : cnt (seeF N L) 2 0 = c) (hd : numV (seeF N L) 0 c = d) (hb1 : nb 1 c (-1) (0 + c) = b1) (hb' : b1' = if 23 < d then wrB b1 0 else b1) (hb2 : needB (seeF N L) 104 (0 + c) b1' = b2) {R : Int × Nat × Int} (hR : restR (seeF N L) N 109 115 (0 + c + 1) b2 = R) :
    (∃ j, houO (seeF N L) N = .ok ((d * 3600 * 1000000 + R.1) * 15) j ∧ R.2.2 = -1) ∨ ∃ x : Nat, houO (seeF N L) N = .bad x ∧ R.2.2 = (x : Int) := by
  subst hc hd hb1 hb' hb2 hR
  unfold houO
  cases hn : numO (seeF N L) 1 2 0 with
  | bad x =>
    refine Or.inr ⟨x, rfl, ?_⟩
    rw [numO_bad hn, wrB_keep (by omega)]
    split <;> rw [rest_keep' (by omega)]
  | ok d k =>
    obtain ⟨e1, e2, e3⟩ := numO_ok hn
    rw [e3, ← e1, ← e2]
    by_cases h23 : 23 < d
    · simp only [if_pos h23]
      rw [wrB_set, rest_keep' (by decide)]
      exact Or.inr ⟨0, rfl, rfl⟩
    · simp only [if_neg h23]
      by_cases hy : seeF N L k = 104
      · have hlt := seeF_lt (by decide) hy
        have hb : needB (seeF N L) 104 k (-1) = -1 := if_pos hy
        rw [hb]
        simp only [if_pos hy]
        cases hr : restO (seeF N L) N 109 115 (k + 1) with
        | bad x => exact Or.inr ⟨x, rfl, restR_bad (by decide) hlt hr⟩
        | ok n j =>
          rw [restR_ok (by decide) hlt hr]
          refine Or.inl ⟨j, ?_, rfl⟩
          simp only
          rw [show d * 3600 * 1000000 = d * 3600000000 by omega]
      · simp only [if_neg hy]
        have hb : needB (seeF N L) 104 k (-1) = (k : Int) := by unfold needB; rw [if_neg hy, wrB_set]
        rw [hb, restR_keep (by omega)]
        exact Or.inr ⟨k, rfl, rfl⟩
/-- How large rest's number may be. -/
theorem sixtyR_bd {s : Nat → Int} {k : Nat} {b : Int} : 0 ≤ (sixtyR s k b).1 ∧ (sixtyR s k b).1 < 100 := by
  have h := numV_bd s k (cnt s 2 k) (fun j hj => cnt_digit s 2 k j hj)
  have hc := cnt_le s 2 k
  have hp : (10 : Int) ^ cnt s 2 k ≤ 100 := (by decide : ∀ j : Fin 3, (10 : Int) ^ j.val ≤ 100) ⟨cnt s 2 k, by omega⟩
  unfold sixtyR; simp only; omega
theorem restR_bd {s : Nat → Int} {N k : Nat} {mn sc b : Int} : 0 ≤ (restR s N mn sc k b).1 ∧ (restR s N mn sc k b).1 < 7000000000 := by
  have h1 := sixtyR_bd (s := s) (k := k) (b := b)
  unfold restR
  split
  · simp
  · split
    · simp only; omega
    · have h2 := sixtyR_bd (s := s) (k := (sixtyR s k b).2.1 + 1) (b := needB s mn (sixtyR s k b).2.1 (sixtyR s k b).2.2)
      unfold secR
      split
      · have hc := cnt_le s 6 ((sixtyR s ((sixtyR s k b).2.1 + 1) (needB s mn (sixtyR s k b).2.1 (sixtyR s k b).2.2)).2.1 + 1)
        have hv := numV_bd s ((sixtyR s ((sixtyR s k b).2.1 + 1) (needB s mn (sixtyR s k b).2.1 (sixtyR s k b).2.2)).2.1 + 1) _ (fun j hj => cnt_digit s 6 _ j hj)
        have hq := pow_bd _ _ (6 - cnt s 6 ((sixtyR s ((sixtyR s k b).2.1 + 1) (needB s mn (sixtyR s k b).2.1 (sixtyR s k b).2.2)).2.1 + 1)) hv.1 hv.2 (by omega)
        unfold endR; simp only; omega
      · unfold endR; simp only; omega
theorem degO_neg {s : Nat → Int} {N : Nat} (h0 : s 0 = 45) : degO s N = signO true (match numO s 1 6 1 with | .bad k => .bad k | .ok d k => if s k = 176 then (match restO s N 8242 8243 (k + 1) with | .bad k => .bad k | .ok n k => .ok (d * 3600 * 1000000 + n) k) else .bad k) := by
  unfold degO
  rw [if_pos (Or.inl h0)]
  simp only [if_pos h0]
  cases numO s 1 6 1 with
  | bad k => rfl
  | ok d k =>
    simp only
    split
    · cases restO s N 8242 8243 (k + 1) with
      | bad k => rfl
      | ok n k => simp only [signO, if_true]; rw [show d * 3600 * 1000000 = d * 3600000000 by omega]
    · rfl
theorem degO_pos {s : Nat → Int} {N k0 : Nat} (h0 : s 0 ≠ 45) (hk : (if s 0 = 45 ∨ s 0 = 43 then 1 else 0) = k0) : degO s N = (match numO s 1 6 k0 with | .bad k => .bad k | .ok d k => if s k = 176 then (match restO s N 8242 8243 (k + 1) with | .bad k => .bad k | .ok n k => .ok (d * 3600 * 1000000 + n) k) else .bad k) := by
  unfold degO
  rw [hk]
  simp only [if_neg h0]
  cases numO s 1 6 k0 with
  | bad k => rfl
  | ok d k =>
    simp only
    split
    · cases restO s N 8242 8243 (k + 1) with
      | bad k => rfl
      | ok n k => simp only; rw [show d * 3600 * 1000000 = d * 3600000000 by omega]
    · rfl
theorem degO_plus {s : Nat → Int} {N : Nat} (h0 : s 0 ≠ 45) (h1 : s 0 = 43) : degO s N = (match numO s 1 6 1 with | .bad k => .bad k | .ok d k => if s k = 176 then (match restO s N 8242 8243 (k + 1) with | .bad k => .bad k | .ok n k => .ok (d * 3600 * 1000000 + n) k) else .bad k) := degO_pos h0 (if_pos (Or.inr h1))
theorem degO_none {s : Nat → Int} {N : Nat} (h0 : s 0 ≠ 45) (h1 : s 0 ≠ 43) : degO s N = (match numO s 1 6 0 with | .bad k => .bad k | .ok d k => if s k = 176 then (match restO s N 8242 8243 (k + 1) with | .bad k => .bad k | .ok n k => .ok (d * 3600 * 1000000 + n) k) else .bad k) := degO_pos h0 (if_neg (fun h => h.elim h0 h1))
theorem neg_rel {o o1 : Out} {v bad : Int} (ho : o = signO true o1) (h : (∃ j, o1 = .ok v j ∧ bad = -1) ∨ ∃ x : Nat, o1 = .bad x ∧ bad = (x : Int)) : (∃ j, o = .ok (-v) j ∧ bad = -1) ∨ ∃ x : Nat, o = .bad x ∧ bad = (x : Int) := by
  rcases h with ⟨j, h1, h2⟩ | ⟨x, h1, h2⟩
  · exact Or.inl ⟨j, by rw [ho, h1]; rfl, h2⟩
  · exact Or.inr ⟨x, by rw [ho, h1]; rfl, h2⟩
end Go.Proofs.YtpkifhmnibepiaaDoor
