/- Scanning the runes of an angle's text: plain laws. -/
import Derived.Test.YtpkifhmnibepiaaDoorTab
namespace Go.Proofs.YtpkifhmnibepiaaDoor

/-- What comes of a part of a scan: a number and where it ends, or where it is wrong. -/
inductive Out where
  | ok (n : Int) (i : Nat)
  | bad (i : Nat)

section
variable (s : Nat → Int)
def isD (c : Int) : Bool := decide (48 ≤ c ∧ c ≤ 57)
/-- How many digits stand from a on, m at most. -/
def cnt : Nat → Nat → Nat
  | 0, _ => 0
  | m + 1, a => if isD (s a) then cnt m (a + 1) + 1 else 0
/-- The number of k digits from a on. -/
def numV (a : Nat) : Nat → Int
  | 0 => 0
  | k + 1 => numV a k * 10 + (s (a + k) - 48)
def numO (least most a : Nat) : Out := if cnt s most a < least then .bad (a + cnt s most a) else .ok (numV s a (cnt s most a)) (a + cnt s most a)
def sixtyO (a : Nat) : Out :=
  match numO s 2 2 a with
  | .bad k => .bad k
  | .ok n k => if 59 < n then .bad a else .ok n k
/-- Behind the point of a second. -/
def partO (a : Nat) : Out :=
  match numO s 1 6 a with
  | .bad k => .bad k
  | .ok n k => .ok (n * 10 ^ (6 - (k - a))) k
def endO (N : Nat) (sc : Int) (n : Int) (a : Nat) : Out := if s a = sc then (if a + 1 < N then .bad (a + 1) else .ok n (a + 1)) else .bad a
def secO (N : Nat) (sc : Int) (m : Int) (a : Nat) : Out :=
  match sixtyO s a with
  | .bad k => .bad k
  | .ok m2 k => if s k = 46 then (match partO s (k + 1) with | .bad k => .bad k | .ok p k => endO s N sc (m * 60000000 + m2 * 1000000 + p) k) else endO s N sc (m * 60000000 + m2 * 1000000) k
def restO (N : Nat) (mn sc : Int) (a : Nat) : Out :=
  if a = N then .ok 0 a else
  match sixtyO s a with
  | .bad k => .bad k
  | .ok m k => if s k = mn then (if k + 1 = N then .ok (m * 60000000) (k + 1) else secO s N sc m (k + 1)) else .bad k
def signO (neg : Bool) : Out → Out
  | .bad k => .bad k
  | .ok n k => .ok (if neg then -n else n) k
def degO (N : Nat) : Out :=
  match numO s 1 6 (if s 0 = 45 ∨ s 0 = 43 then 1 else 0) with
  | .bad k => .bad k
  | .ok d k => if s k = 176 then (match restO s N 8242 8243 (k + 1) with | .bad k => .bad k | .ok n k => .ok (if s 0 = 45 then -(d * 3600000000 + n) else d * 3600000000 + n) k) else .bad k
def houO (N : Nat) : Out :=
  match numO s 1 2 0 with
  | .bad k => .bad k
  | .ok h k => if 23 < h then .bad 0 else if s k = 104 then (match restO s N 109 115 (k + 1) with | .bad k => .bad k | .ok n k => .ok ((h * 3600000000 + n) * 15) k) else .bad k

theorem cnt_le : ∀ m a, cnt s m a ≤ m
  | 0, _ => Nat.le_refl _
  | m + 1, a => by
    have := cnt_le m (a + 1)
    unfold cnt; split <;> omega
theorem cnt_digit : ∀ m a j, j < cnt s m a → isD (s (a + j)) = true
  | 0, _, _, h => absurd h (Nat.not_lt_zero _)
  | m + 1, a, j, h => by
    unfold cnt at h
    split at h
    · rename_i hd
      cases j with
      | zero => exact hd
      | succ j => have := cnt_digit m (a + 1) j (by omega); rw [show a + (j + 1) = a + 1 + j by omega]; exact this
    · exact absurd h (Nat.not_lt_zero _)
theorem cnt_stop : ∀ m a, cnt s m a < m → isD (s (a + cnt s m a)) = false
  | 0, _, h => absurd h (Nat.not_lt_zero _)
  | m + 1, a, h => by
    unfold cnt at h ⊢
    split at h
    · rename_i hd
      rw [if_pos hd, show a + (cnt s m (a + 1) + 1) = a + 1 + cnt s m (a + 1) by omega]
      exact cnt_stop m (a + 1) (by omega)
    · rename_i hd
      rw [if_neg hd]
      simpa using hd
theorem cnt_unique (m a k : Nat) (hk : k ≤ m) (h : ∀ j, j < k → isD (s (a + j)) = true) (hs : k < m → isD (s (a + k)) = false) : cnt s m a = k := by
  have h1 := cnt_le s m a
  rcases Nat.lt_trichotomy (cnt s m a) k with c | c | c
  · have := cnt_stop s m a (by omega)
    rw [h _ c] at this; cases this
  · exact c
  · have := cnt_digit s m a k c
    rw [hs (by omega)] at this; cases this
theorem isD_bd {c : Int} (h : isD c = true) : 48 ≤ c ∧ c ≤ 57 := by simpa [isD] using h
theorem numV_bd (a : Nat) : ∀ k, (∀ j, j < k → isD (s (a + j)) = true) → 0 ≤ numV s a k ∧ numV s a k < 10 ^ k
  | 0, _ => by simp [numV]
  | k + 1, h => by
    have h1 := numV_bd a k (fun j hj => h j (by omega))
    have h2 := isD_bd (h k (by omega))
    have e : (10 : Int) ^ (k + 1) = 10 ^ k * 10 := Int.pow_succ ..
    unfold numV
    rw [e]
    generalize (10 : Int) ^ k = p at *
    omega
end

/-- Two readings that no part of a scan tells from each other. -/
def Like (s t : Nat → Int) : Prop := ∀ i, s i = t i ∨ (s i = 65533 ∧ t i = -1)
theorem Like.eq {s t : Nat → Int} (h : Like s t) (i : Nat) (c : Int) (h1 : c ≠ 65533) (h2 : c ≠ -1) : s i = c ↔ t i = c := by
  rcases h i with e | ⟨e1, e2⟩
  · rw [e]
  · rw [e1, e2]; constructor <;> intro h <;> omega
theorem Like.isD {s t : Nat → Int} (h : Like s t) (i : Nat) : isD (s i) = isD (t i) := by
  rcases h i with e | ⟨e1, e2⟩
  · rw [e]
  · rw [e1, e2]; decide
theorem Like.dig {s t : Nat → Int} (h : Like s t) (i : Nat) (hd : Go.Proofs.YtpkifhmnibepiaaDoor.isD (s i) = true) : s i = t i := by
  rcases h i with e | ⟨e1, e2⟩
  · exact e
  · rw [e1] at hd; cases hd
theorem Like.cnt {s t : Nat → Int} (h : Like s t) : ∀ m a, cnt s m a = cnt t m a
  | 0, _ => rfl
  | m + 1, a => by unfold Go.Proofs.YtpkifhmnibepiaaDoor.cnt; rw [h.isD a, Like.cnt h m (a + 1)]
theorem Like.numV {s t : Nat → Int} (h : Like s t) (a : Nat) : ∀ k, (∀ j, j < k → Go.Proofs.YtpkifhmnibepiaaDoor.isD (s (a + j)) = true) → numV s a k = numV t a k
  | 0, _ => rfl
  | k + 1, hd => by
    unfold Go.Proofs.YtpkifhmnibepiaaDoor.numV
    rw [Like.numV h a k (fun j hj => hd j (by omega)), h.dig _ (hd k (by omega))]
theorem Like.numO {s t : Nat → Int} (h : Like s t) (l m a : Nat) : numO s l m a = numO t l m a := by
  unfold Go.Proofs.YtpkifhmnibepiaaDoor.numO
  rw [h.numV a _ (fun j hj => cnt_digit s m a j hj), h.cnt]
theorem Like.sixtyO {s t : Nat → Int} (h : Like s t) (a : Nat) : sixtyO s a = sixtyO t a := by
  unfold Go.Proofs.YtpkifhmnibepiaaDoor.sixtyO; rw [h.numO]
theorem Like.partO {s t : Nat → Int} (h : Like s t) (a : Nat) : partO s a = partO t a := by
  unfold Go.Proofs.YtpkifhmnibepiaaDoor.partO; rw [h.numO]
theorem Like.endO {s t : Nat → Int} (h : Like s t) (N : Nat) (sc n : Int) (a : Nat) (h1 : sc ≠ 65533) (h2 : sc ≠ -1) : endO s N sc n a = endO t N sc n a := by
  unfold Go.Proofs.YtpkifhmnibepiaaDoor.endO; simp only [h.eq a sc h1 h2]
theorem Like.secO {s t : Nat → Int} (h : Like s t) (N : Nat) (sc m : Int) (a : Nat) (h1 : sc ≠ 65533) (h2 : sc ≠ -1) : secO s N sc m a = secO t N sc m a := by
  unfold Go.Proofs.YtpkifhmnibepiaaDoor.secO
  rw [h.sixtyO]
  cases Go.Proofs.YtpkifhmnibepiaaDoor.sixtyO t a with
  | bad k => rfl
  | ok m2 k => simp only [h.eq k 46 (by decide) (by decide), h.partO, h.endO N sc _ _ h1 h2]
theorem Like.restO {s t : Nat → Int} (h : Like s t) (N : Nat) (mn sc : Int) (a : Nat) (h1 : sc ≠ 65533) (h2 : sc ≠ -1) (h3 : mn ≠ 65533) (h4 : mn ≠ -1) : restO s N mn sc a = restO t N mn sc a := by
  unfold Go.Proofs.YtpkifhmnibepiaaDoor.restO
  rw [h.sixtyO]
  cases Go.Proofs.YtpkifhmnibepiaaDoor.sixtyO t a with
  | bad k => rfl
  | ok m k => simp only [h.eq k mn h3 h4, h.secO N sc _ _ h1 h2]
theorem Like.degO {s t : Nat → Int} (h : Like s t) (N : Nat) : degO s N = degO t N := by
  unfold Go.Proofs.YtpkifhmnibepiaaDoor.degO
  simp only [h.eq 0 45 (by decide) (by decide), h.eq 0 43 (by decide) (by decide), h.numO]
  cases Go.Proofs.YtpkifhmnibepiaaDoor.numO t 1 6 (if t 0 = 45 ∨ t 0 = 43 then 1 else 0) with
  | bad k => rfl
  | ok d k => simp only [h.eq k 176 (by decide) (by decide), h.restO N 8242 8243 _ (by decide) (by decide) (by decide) (by decide)]
theorem Like.houO {s t : Nat → Int} (h : Like s t) (N : Nat) : houO s N = houO t N := by
  unfold Go.Proofs.YtpkifhmnibepiaaDoor.houO
  simp only [h.numO]
  cases Go.Proofs.YtpkifhmnibepiaaDoor.numO t 1 2 0 with
  | bad k => rfl
  | ok d k => simp only [h.eq k 104 (by decide) (by decide), h.restO N 109 115 _ (by decide) (by decide) (by decide) (by decide)]
end Go.Proofs.YtpkifhmnibepiaaDoor
