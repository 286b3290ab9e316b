/- A stable sort by blocks and merges in place: plain laws. -/
import Derived.ProofKit
import Derived.Sort.LotA
namespace Go.Proofs.YthbekddpnkammaaGreatDoor
open Go.Sort

section
variable {α : Type} [Inhabited α] (key : α → Int) (tag : α → Nat)
/-- Ahead of another: of a greater key; or of the same and of a lower tag. -/
def ahd (x y : α) : Bool := decide (key y < key x ∨ key x = key y ∧ tag x < tag y)
/-- Of a greater key. -/
def brt (x y : α) : Bool := decide (key y < key x)
variable {key : α → Int} {tag : α → Nat}
omit [Inhabited α] in
theorem ahd_no {x y : α} : ahd key tag x y = false ↔ ¬ (key y < key x ∨ key x = key y ∧ tag x < tag y) := by unfold ahd; simp
omit [Inhabited α] in
theorem swo_ahd : SWO (ahd key tag) where
  irrefl x := by rw [ahd_no]; omega
  trans x y z h1 h2 := by
    unfold ahd at *
    rw [decide_eq_true_eq] at *
    omega
  ntrans x y z h1 h2 := by
    rw [ahd_no] at *
    omega
omit [Inhabited α] in
theorem ahd_brt {x y : α} (h : tag x < tag y) : brt key y x = ahd key tag y x := by
  unfold brt ahd
  rw [decide_eq_decide]
  omega

/-! ### The insertion sort keeps the order of equals -/
theorem insInner_same {a : Nat} : ∀ (j : Nat) (d : Array α), j < d.size → (∀ p, a ≤ p → p < j → tag d[p]! < tag d[j]!) → insInner (brt key) a j d = insInner (ahd key tag) a j d
  | 0, _, _, _ => rfl
  | j + 1, d, hj, h => by
    unfold insInner
    by_cases c : a ≤ j
    · have e : brt key d[j + 1]! d[j]! = ahd key tag d[j + 1]! d[j]! := ahd_brt (h j c (by omega))
      rw [e]
      split
      · refine insInner_same j _ (by rw [swp_size]; omega) (fun p hp hpj => ?_)
        rw [swp_get d hj (by omega), swp_get d hj (by omega)]
        rw [if_neg (by omega), if_neg (by omega), if_pos rfl]
        exact h p hp (by omega)
      · rfl
    · have e : decide (j + 1 > a) = false := by simp; omega
      rw [e, Bool.false_and, Bool.false_and, if_neg (by decide), if_neg (by decide)]
theorem insInner_perm {lt : α → α → Bool} {a b : Nat} : ∀ (j : Nat) (d : Array α), j < b → b ≤ d.size → PermIn a b d (insInner lt a j d)
  | 0, d, _, _ => permIn_refl d a b
  | j + 1, d, hj, hb => by
    unfold insInner
    split
    · rename_i h
      have haj : a ≤ j := by
        have := (Bool.and_eq_true _ _ ▸ h).1
        simp at this; omega
      exact permIn_trans _ _ _ a b (swp_permIn d a b (j + 1) j (by omega) hj haj (by omega) hb) (insInner_perm j _ (by omega) (by rw [swp_size]; exact hb))
    · exact permIn_refl d a b
theorem insOuter_same {a b : Nat} : ∀ (n i : Nat) (d : Array α), b - i = n → a ≤ i → b ≤ d.size → (∀ p q, a ≤ p → p < q → i ≤ q → q < b → tag d[p]! < tag d[q]!) → insOuter (brt key) a b i d = insOuter (ahd key tag) a b i d
  | 0, i, d, hn, _, _, _ => by
    have c : ¬ i < b := by omega
    rw [insOuter, if_neg c, insOuter, if_neg c]
  | n + 1, i, d, hn, ha, hb, h => by
    have c : i < b := by omega
    rw [insOuter, if_pos c]
    conv => rhs; rw [insOuter, if_pos c]
    rw [insInner_same (tag := tag) i d (by omega) (fun p h1 h2 => h p i h1 h2 (Nat.le_refl _) (by omega))]
    have hP := insInner_perm (lt := ahd key tag) (a := a) (b := i + 1) i d (by omega) (by omega)
    refine insOuter_same n (i + 1) _ (by omega) (by omega) (by rw [hP.1]; exact hb) (fun p q h1 h2 h3 h4 => ?_)
    rw [hP.2.1 q (Or.inr h3)]
    by_cases c : p < i + 1
    · exact permIn_all d _ a (i + 1) (fun x => tag x < tag d[q]!) (by omega) hP (fun k k1 k2 => h k q k1 (by omega) (by omega) h4) p h1 c
    · rw [hP.2.1 p (Or.inr (by omega))]
      exact h p q h1 h2 (by omega) h4
theorem insertion_stable {a b : Nat} {d : Array α} (hab : a ≤ b) (hb : b ≤ d.size) (h : ∀ p q, a ≤ p → p < q → q < b → tag d[p]! < tag d[q]!) :
    PermIn a b d (insertionSort (brt key) d a b) ∧ SortedIn (ahd key tag) a b (insertionSort (brt key) d a b) := by
  have e : insertionSort (brt key) d a b = insertionSort (ahd key tag) d a b := insOuter_same (b - (a + 1)) (a + 1) d rfl (by omega) hb (fun p q h1 h2 _ h4 => h p q h1 h2 h4)
  rw [e]
  exact insertionSort_holds swo_ahd d a b hab hb

/-! ### The merge in place -/
/-- Two sorted parts side by side, the left one's tags lower. -/
structure MG (key : α → Int) (tag : α → Nat) (a m b : Nat) (d : Array α) : Prop where
  am : a ≤ m
  mb : m ≤ b
  bs : b ≤ d.size
  left : SortedIn (ahd key tag) a m d
  right : SortedIn (ahd key tag) m b d
  tags : ∀ p q, a ≤ p → p < m → m ≤ q → q < b → tag d[p]! < tag d[q]!
/-- The two parts, merged. -/
def Merged (key : α → Int) (tag : α → Nat) (a b : Nat) (d d' : Array α) : Prop := PermIn a b d d' ∧ SortedIn (ahd key tag) a b d'
variable {a m b : Nat} {d : Array α}
theorem MG.triv (h : MG key tag a m b d) (e : a = m ∨ m = b) : Merged key tag a b d d := by
  refine ⟨permIn_refl d a b, ?_⟩
  rcases e with e | e
  · rw [e]; exact h.right
  · rw [← e]; exact h.left
/-- Not ahead: along a sorted part. -/
theorem sorted_le {a b p q : Nat} {d : Array α} (h : SortedIn (ahd key tag) a b d) (h1 : a ≤ p) (h2 : p ≤ q) (h3 : q < b) : ahd key tag d[q]! d[p]! = false := by
  by_cases e : p = q
  · rw [e]; exact swo_ahd.irrefl _
  · exact h p q h1 (by omega) h3
omit [Inhabited α] in
theorem not_ahead {x y : α} (h : ahd key tag x y = true) : ahd key tag y x = false := swo_ahd.asymmA h
theorem MG.one_left {i : Nat} {d' : Array α} (h : MG key tag a (a + 1) b d) (h1 : a + 1 ≤ i) (h2 : i ≤ b) (hl : ∀ q, a + 1 ≤ q → q < i → ahd key tag d[q]! d[a]! = true) (hr : ∀ q, i ≤ q → q < b → ahd key tag d[q]! d[a]! = false)
    (hp : PermIn a b d d') (hd : ∀ p, p < d.size → d'[p]! = if a ≤ p ∧ p + 1 < i then d[p + 1]! else if p + 1 = i then d[a]! else d[p]!) : Merged key tag a b d d' := by
  have hs := h.bs
  have g1 : ∀ p, a ≤ p → p + 1 < i → d'[p]! = d[p + 1]! := fun p k1 k2 => by rw [hd p (by omega), if_pos ⟨k1, k2⟩]
  have g2 : ∀ p, p + 1 = i → d'[p]! = d[a]! := fun p k => by rw [hd p (by omega), if_neg (by omega), if_pos k]
  have g3 : ∀ p, i ≤ p → p < b → d'[p]! = d[p]! := fun p k1 k2 => by rw [hd p (by omega), if_neg (by omega), if_neg (by omega)]
  refine ⟨hp, fun p q ha hpq hqb => ?_⟩
  by_cases c1 : p + 1 < i
  · rw [g1 p ha c1]
    by_cases c2 : q + 1 < i
    · rw [g1 q (by omega) c2]
      exact h.right (p + 1) (q + 1) (by omega) (by omega) (by omega)
    · by_cases c3 : q + 1 = i
      · rw [g2 q c3]
        exact not_ahead (hl (p + 1) (by omega) (by omega))
      · rw [g3 q (by omega) hqb]
        exact h.right (p + 1) q (by omega) (by omega) hqb
  · by_cases c2 : p + 1 = i
    · rw [g2 p c2, g3 q (by omega) hqb]
      exact hr q (by omega) hqb
    · rw [g3 p (by omega) (by omega), g3 q (by omega) hqb]
      exact h.right p q (by omega) hpq hqb
theorem MG.one_right {i : Nat} {d' : Array α} (h : MG key tag a m (m + 1) d) (h1 : a ≤ i) (h2 : i ≤ m) (hl : ∀ p, a ≤ p → p < i → ahd key tag d[m]! d[p]! = false) (hr : ∀ p, i ≤ p → p < m → ahd key tag d[m]! d[p]! = true)
    (hp : PermIn a (m + 1) d d') (hd : ∀ p, p < d.size → d'[p]! = if p = i then d[m]! else if i < p ∧ p ≤ m then d[p - 1]! else d[p]!) : Merged key tag a (m + 1) d d' := by
  have hs := h.bs
  have g1 : d'[i]! = d[m]! := by rw [hd i (by omega), if_pos rfl]
  have g2 : ∀ p, i < p → p ≤ m → d'[p]! = d[p - 1]! := fun p k1 k2 => by rw [hd p (by omega), if_neg (by omega), if_pos ⟨k1, k2⟩]
  have g3 : ∀ p, p < i → d'[p]! = d[p]! := fun p k1 => by rw [hd p (by omega), if_neg (by omega), if_neg (by omega)]
  refine ⟨hp, fun p q ha hpq hqb => ?_⟩
  by_cases c1 : p = i
  · rw [c1, g1, g2 q (by omega) (by omega)]
    exact not_ahead (hr (q - 1) (by omega) (by omega))
  · by_cases c2 : i < p
    · rw [g2 p c2 (by omega), g2 q (by omega) (by omega)]
      exact h.left (p - 1) (q - 1) (by omega) (by omega) (by omega)
    · rw [g3 p (by omega)]
      by_cases c3 : q = i
      · rw [c3, g1]
        exact hl p ha (by omega)
      · by_cases c4 : i < q
        · rw [g2 q c4 (by omega)]
          exact sorted_le h.left ha (by omega) (by omega)
        · rw [g3 q (by omega)]
          exact h.left p q ha hpq (by omega)
/-- The search for a place among what is sorted: one side of the halved part falls off. -/
theorem search_left {h q : Nat} {x : α} (hS : SortedIn (ahd key tag) a b d) (hh : h < b) (hx : ahd key tag d[h]! x = true) (h1 : a ≤ q) (h2 : q ≤ h) : ahd key tag d[q]! x = true := by
  have h3 := sorted_le hS h1 h2 hh
  cases c : ahd key tag d[q]! x with
  | true => rfl
  | false =>
    have := swo_ahd.ntrans _ _ _ h3 c
    rw [hx] at this
    cases this
theorem search_right {h q : Nat} {x : α} (hS : SortedIn (ahd key tag) a b d) (ha : a ≤ h) (hx : ahd key tag d[h]! x = false) (h1 : h ≤ q) (h2 : q < b) : ahd key tag d[q]! x = false :=
  swo_ahd.ntrans _ _ _ (sorted_le hS ha h1 h2) hx
theorem search_left' {h q : Nat} {x : α} (hS : SortedIn (ahd key tag) a b d) (hh : h < b) (hx : ahd key tag x d[h]! = false) (h1 : a ≤ q) (h2 : q ≤ h) : ahd key tag x d[q]! = false :=
  swo_ahd.ntrans _ _ _ hx (sorted_le hS h1 h2 hh)
theorem search_right' {h q : Nat} {x : α} (hS : SortedIn (ahd key tag) a b d) (ha : a ≤ h) (hx : ahd key tag x d[h]! = true) (h1 : h ≤ q) (h2 : q < b) : ahd key tag x d[q]! = true := by
  have h3 := sorted_le hS ha h1 h2
  cases c : ahd key tag x d[q]! with
  | true => rfl
  | false =>
    have := swo_ahd.ntrans _ _ _ c h3
    rw [hx] at this
    cases this
/-- Two blocks side by side, exchanged: 'x u v y' is 'x v u y'. -/
def rotT (d : Array α) (s m e p : Nat) : α := if s ≤ p ∧ p < s + (e - m) then d[m + (p - s)]! else if s + (e - m) ≤ p ∧ p < e then d[s + (p - (s + (e - m)))]! else d[p]!
set_option maxHeartbeats 1000000 in
theorem MG.split {s e mid : Nat} {d1 : Array α} (h : MG key tag a m b d) (h1 : a ≤ s) (h2 : s ≤ m) (h3 : m ≤ e) (h4 : e ≤ b) (h5 : s + e = mid + m) (c1 : a < s → e < b → ahd key tag d[e]! d[s - 1]! = false) (c2 : s < m → m < e → ahd key tag d[e - 1]! d[s]! = true)
    (hp : PermIn a b d d1) (hd : ∀ p, p < d.size → d1[p]! = rotT d s m e p) :
    MG key tag a s mid d1 ∧ MG key tag mid e b d1 ∧ ∀ p q, a ≤ p → p < mid → mid ≤ q → q < b → ahd key tag d1[q]! d1[p]! = false := by
  have hbs := h.bs
  have g1 : ∀ p, p < s → d1[p]! = d[p]! := fun p hp => by rw [hd p (by omega), rotT, if_neg (by omega), if_neg (by omega)]
  have g2 : ∀ p, s ≤ p → p < mid → d1[p]! = d[m + (p - s)]! := fun p k1 k2 => by rw [hd p (by omega), rotT, if_pos (by omega)]
  have g3 : ∀ p, mid ≤ p → p < e → d1[p]! = d[s + (p - mid)]! := fun p k1 k2 => by rw [hd p (by omega), rotT, if_neg (by omega), if_pos (by omega), show s + (e - m) = mid by omega]
  have g4 : ∀ p, e ≤ p → p < b → d1[p]! = d[p]! := fun p k1 k2 => by rw [hd p (by omega), rotT, if_neg (by omega), if_neg (by omega)]
  have hbs1 : b ≤ d1.size := by rw [hp.1]; exact hbs
  refine ⟨⟨h1, by omega, by omega, ?_, ?_, ?_⟩, ⟨by omega, h4, hbs1, ?_, ?_, ?_⟩, ?_⟩
  · intro p q k1 k2 k3
    rw [g1 p (by omega), g1 q k3]
    exact h.left p q k1 k2 (by omega)
  · intro p q k1 k2 k3
    rw [g2 p k1 (by omega), g2 q (by omega) k3]
    exact h.right _ _ (by omega) (by omega) (by omega)
  · intro p q k1 k2 k3 k4
    rw [g1 p k2, g2 q k3 k4]
    exact h.tags _ _ k1 (by omega) (by omega) (by omega)
  · intro p q k1 k2 k3
    rw [g3 p k1 (by omega), g3 q (by omega) k3]
    exact h.left _ _ (by omega) (by omega) (by omega)
  · intro p q k1 k2 k3
    rw [g4 p k1 (by omega), g4 q (by omega) k3]
    exact h.right _ _ (by omega) (by omega) (by omega)
  · intro p q k1 k2 k3 k4
    rw [g3 p k1 k2, g4 q k3 k4]
    exact h.tags _ _ (by omega) (by omega) (by omega) (by omega)
  · intro p q k1 k2 k3 k4
    by_cases z1 : p < s
    · rw [g1 p z1]
      by_cases z2 : q < e
      · rw [g3 q k3 z2]
        exact sorted_le h.left k1 (by omega) (by omega)
      · rw [g4 q (by omega) k4]
        exact swo_ahd.ntrans _ _ _ (sorted_le h.right h3 (by omega) k4) (swo_ahd.ntrans _ _ _ (c1 (by omega) (by omega)) (sorted_le h.left k1 (by omega) (by omega)))
    · rw [g2 p (by omega) k2]
      by_cases z2 : q < e
      · rw [g3 q k3 z2]
        exact swo_ahd.ntrans _ _ _ (sorted_le h.left h1 (by omega) (by omega)) (swo_ahd.ntrans _ _ _ (not_ahead (c2 (by omega) (by omega))) (sorted_le h.right (by omega) (by omega) (by omega)))
      · rw [g4 q (by omega) k4]
        exact sorted_le h.right (by omega) (by omega) k4
/-- Both halves merged: the whole is. -/
theorem merged_both {mid : Nat} {d1 d2 d3 : Array α} (ham : a ≤ mid) (hmb : mid ≤ b) (hbs : b ≤ d.size) (h0 : PermIn a b d d1) (hx : ∀ p q, a ≤ p → p < mid → mid ≤ q → q < b → ahd key tag d1[q]! d1[p]! = false) (h1 : Merged key tag a mid d1 d2) (h2 : Merged key tag mid b d2 d3) : Merged key tag a b d d3 := by
  have s1 : d1.size = d.size := h0.1
  have s2 : d2.size = d1.size := h1.1.1
  have p1 := permIn_mono d1 d2 a mid a b (Nat.le_refl _) hmb (by omega) h1.1
  have p2 := permIn_mono d2 d3 mid b a b ham (Nat.le_refl _) (by omega) h2.1
  refine ⟨permIn_trans _ _ _ a b h0 (permIn_trans _ _ _ a b p1 p2), fun p q k1 k2 k3 => ?_⟩
  by_cases z1 : q < mid
  · rw [h2.1.2.1 p (Or.inl (by omega)), h2.1.2.1 q (Or.inl z1)]
    exact h1.2 p q k1 k2 z1
  · by_cases z2 : p < mid
    · rw [h2.1.2.1 p (Or.inl z2)]
      refine permIn_all d2 d3 mid b (fun x => ahd key tag x d2[p]! = false) (by omega) h2.1 (fun j j1 j2 => ?_) q (by omega) k3
      rw [h1.1.2.1 j (Or.inr j1)]
      exact permIn_all d1 d2 a mid (fun x => ahd key tag d1[j]! x = false) (by omega) h1.1 (fun i i1 i2 => hx i j i1 i2 j1 j2) p k1 z2
    · exact h2.2 p q (by omega) k2 k3

/-! ### The exchange of ranges and of blocks -/
/-- n elements from a on and n from b on, exchanged. -/
def swR (d : Array α) (a b n p : Nat) : α := if a ≤ p ∧ p < a + n then d[b + (p - a)]! else if b ≤ p ∧ p < b + n then d[a + (p - b)]! else d[p]!
theorem swR_zero (a b p : Nat) : swR d a b 0 p = d[p]! := by unfold swR; rw [if_neg (by omega), if_neg (by omega)]
theorem swR_step {a b n i : Nat} {dk : Array α} (hab : a + n ≤ b) (hb : b + n ≤ d.size) (hs : dk.size = d.size) (hi : i < n) (h : ∀ p, p < d.size → dk[p]! = swR d a b i p) (p : Nat) (hp : p < d.size) : (swp dk (a + i) (b + i))[p]! = swR d a b (i + 1) p := by
  rw [swp_get dk (by omega) (by omega)]
  by_cases c1 : p = b + i
  · rw [if_pos c1, h (a + i) (by omega)]
    unfold swR
    rw [if_neg (by omega), if_neg (by omega), if_neg (by omega), if_pos (by omega)]
    congr 1
    omega
  · rw [if_neg c1]
    by_cases c2 : p = a + i
    · rw [if_pos c2, h (b + i) (by omega)]
      unfold swR
      rw [if_neg (by omega), if_neg (by omega), if_pos (by omega)]
      congr 1
      omega
    · rw [if_neg c2, h p hp]
      unfold swR
      by_cases c3 : a ≤ p ∧ p < a + i
      · rw [if_pos c3, if_pos (by omega)]
      · have c5 : ¬ (a ≤ p ∧ p < a + (i + 1)) := by omega
        rw [if_neg c3, if_neg c5]
        by_cases c4 : b ≤ p ∧ p < b + i
        · have c6 : b ≤ p ∧ p < b + (i + 1) := by omega
          rw [if_pos c4, if_pos c6]
        · have c6 : ¬ (b ≤ p ∧ p < b + (i + 1)) := by omega
          rw [if_neg c4, if_neg c6]
/-- The left block longer: its end's exchange. -/
theorem rot_left {m i j : Nat} {dk dk' : Array α} (him : i ≤ m) (hmj : m + j ≤ dk.size) (hij : j ≤ i) (h : ∀ p, p < dk.size → dk'[p]! = swR dk (m - i) m j p) (p : Nat) (hp : p < dk.size) :
    rotT dk' (m - (i - j)) m (m + j) p = rotT dk (m - i) m (m + j) p := by
  unfold rotT
  by_cases c1 : m - (i - j) ≤ p ∧ p < m - (i - j) + (m + j - m)
  · rw [if_pos c1, h _ (by omega)]
    unfold swR
    by_cases d1 : m - i ≤ p ∧ p < m - i + (m + j - m)
    · omega
    · rw [if_neg (by omega), if_pos (by omega), if_neg (by omega), if_pos (by omega)]
      congr 1
      omega
  · rw [if_neg c1]
    by_cases c2 : m - (i - j) + (m + j - m) ≤ p ∧ p < m + j
    · rw [if_pos c2, h _ (by omega), if_neg (by omega), if_pos (by omega)]
      unfold swR
      rw [if_neg (by omega), if_neg (by omega)]
      congr 1
      omega
    · rw [if_neg c2, h p hp]
      unfold swR
      by_cases c3 : m - i ≤ p ∧ p < m - i + j
      · rw [if_pos c3, if_pos (by omega)]
      · rw [if_neg c3, if_neg (by omega), if_neg (by omega), if_neg (by omega)]
/-- The right block longer. -/
theorem rot_right {m i j : Nat} {dk dk' : Array α} (him : i ≤ m) (hmj : m + j ≤ dk.size) (hij : i ≤ j) (h : ∀ p, p < dk.size → dk'[p]! = swR dk (m - i) (m + j - i) i p) (p : Nat) (hp : p < dk.size) :
    rotT dk' (m - i) m (m + (j - i)) p = rotT dk (m - i) m (m + j) p := by
  unfold rotT
  by_cases c1 : m - i ≤ p ∧ p < m - i + (m + (j - i) - m)
  · rw [if_pos c1, h _ (by omega), if_pos (by omega)]
    unfold swR
    by_cases d1 : m - i ≤ m + (p - (m - i)) ∧ m + (p - (m - i)) < m - i + i
    · omega
    · rw [if_neg d1]
      by_cases d2 : m + j - i ≤ m + (p - (m - i)) ∧ m + (p - (m - i)) < m + j - i + i
      · omega
      · rw [if_neg d2]
  · rw [if_neg c1]
    by_cases c2 : m - i + (m + (j - i) - m) ≤ p ∧ p < m + (j - i)
    · rw [if_pos c2, h _ (by omega)]
      unfold swR
      rw [if_pos (by omega)]
      rw [if_pos (by omega)]
      congr 1
      omega
    · rw [if_neg c2, h p hp]
      unfold swR
      by_cases c3 : m + j - i ≤ p ∧ p < m + j - i + i
      · rw [if_neg (by omega), if_pos c3, if_neg (by omega), if_pos (by omega)]
        congr 1
        omega
      · rw [if_neg (by omega), if_neg c3, if_neg (by omega), if_neg (by omega)]
theorem rot_same {m i : Nat} {dk dk' : Array α} (him : i ≤ m) (h : ∀ p, p < dk.size → dk'[p]! = swR dk (m - i) m i p) (p : Nat) (hp : p < dk.size) : dk'[p]! = rotT dk (m - i) m (m + i) p := by
  rw [h p hp]
  unfold swR rotT
  by_cases c1 : m - i ≤ p ∧ p < m - i + i
  · rw [if_pos c1, if_pos (by omega)]
  · have c3 : ¬ (m - i ≤ p ∧ p < m - i + (m + i - m)) := by omega
    rw [if_neg c1, if_neg c3]
    by_cases c2 : m ≤ p ∧ p < m + i
    · have c4 : m - i + (m + i - m) ≤ p ∧ p < m + i := by omega
      rw [if_pos c2, if_pos c4]
      congr 1
      omega
    · have c4 : ¬ (m - i + (m + i - m) ≤ p ∧ p < m + i) := by omega
      rw [if_neg c2, if_neg c4]

/-! ### Blocks -/
/-- Blocks of B elements, each sorted, each with its own tags; those ahead of c are of twice the size. -/
structure Bk (key : α → Int) (tag : α → Nat) (B c n : Nat) (d : Array α) : Prop where
  sz : d.size = n
  lo : ∀ p q, p < q → q < c → q < n → p / (2 * B) = q / (2 * B) → ahd key tag d[q]! d[p]! = false
  hi : ∀ p q, c ≤ p → p < q → q < n → p / B = q / B → ahd key tag d[q]! d[p]! = false
  tlo : ∀ p, p < c → p < n → tag d[p]! / (2 * B) = p / (2 * B)
  thi : ∀ p, c ≤ p → p < n → tag d[p]! / B = p / B
theorem div2 (x B : Nat) : x / (2 * B) = x / B / 2 := by rw [Nat.mul_comm, Nat.div_div_eq_div_mul]
theorem Bk.mg {B c n : Nat} (h : Bk key tag B (2 * B * c) n d) (hB : 0 < B) {b : Nat} (hb : b ≤ n) (h1 : 2 * B * c + B ≤ b) (h2 : b ≤ 2 * B * c + 2 * B) : MG key tag (2 * B * c) (2 * B * c + B) b d := by
  have e1 : ∀ p, 2 * B * c ≤ p → p < 2 * B * c + B → p / B = 2 * c := fun p k1 k2 => by
    rw [Nat.mul_right_comm] at k1 k2
    have a1 : 2 * c ≤ p / B := (Nat.le_div_iff_mul_le hB).2 k1
    have a2 : p / B < 2 * c + 1 := (Nat.div_lt_iff_lt_mul hB).2 (by rw [Nat.succ_mul]; exact k2)
    omega
  have e2 : ∀ p, 2 * B * c + B ≤ p → p < b → p / B = 2 * c + 1 := fun p k1 k2 => by
    rw [Nat.mul_right_comm] at k1 h2
    have a1 : 2 * c + 1 ≤ p / B := (Nat.le_div_iff_mul_le hB).2 (by rw [Nat.succ_mul]; exact k1)
    have a2 : p / B < 2 * c + 1 + 1 := (Nat.div_lt_iff_lt_mul hB).2 (by rw [Nat.succ_mul, Nat.succ_mul]; omega)
    omega
  refine ⟨by omega, h1, by rw [h.sz]; exact hb, fun p q k1 k2 k3 => ?_, fun p q k1 k2 k3 => ?_, fun p q k1 k2 k3 k4 => ?_⟩
  · exact h.hi p q k1 k2 (by omega) (by rw [e1 p k1 (by omega), e1 q (by omega) k3])
  · exact h.hi p q (by omega) k2 (by omega) (by rw [e2 p k1 (by omega), e2 q (by omega) k3])
  · have t1 := h.thi p k1 (by omega)
    have t2 := h.thi q (by omega) (by omega)
    rw [e1 p k1 k2] at t1
    rw [e2 q k3 k4] at t2
    by_cases z : tag d[p]! < tag d[q]!
    · exact z
    · have := Nat.div_le_div_right (c := B) (Nat.le_of_not_lt z)
      omega
/-- A pair of blocks merged. -/
theorem Bk.merge {B c n b : Nat} {d' : Array α} (h : Bk key tag B (2 * B * c) n d) (hB : 0 < B) (hb : b ≤ n) (h2 : b ≤ 2 * B * c + 2 * B) (h3 : b = 2 * B * c + 2 * B ∨ b = n) (hm : Merged key tag (2 * B * c) b d d') (hcb : 2 * B * c ≤ b) : Bk key tag B (2 * B * (c + 1)) n d' := by
  have hs : d'.size = d.size := hm.1.1
  have hsz := h.sz
  have ec : 2 * B * (c + 1) = 2 * B * c + 2 * B := by rw [Nat.mul_add, Nat.mul_one]
  have e1 : ∀ p, 2 * B * c ≤ p → p < b → p / (2 * B) = c := fun p k1 k2 => by
    have a1 : c ≤ p / (2 * B) := (Nat.le_div_iff_mul_le (by omega)).2 (by rw [Nat.mul_comm]; exact k1)
    have a2 : p / (2 * B) < c + 1 := (Nat.div_lt_iff_lt_mul (by omega)).2 (by rw [Nat.mul_comm, ec]; omega)
    omega
  have e0 : ∀ p, p < 2 * B * c → p / (2 * B) < c := fun p k => (Nat.div_lt_iff_lt_mul (by omega)).2 (by rw [Nat.mul_comm]; exact k)
  have lowT : ∀ p, p < 2 * B * c → d'[p]! = d[p]! := fun p k => hm.1.2.1 p (Or.inl k)
  have hiT : ∀ p, b ≤ p → d'[p]! = d[p]! := fun p k => hm.1.2.1 p (Or.inr k)
  have inT : ∀ p, 2 * B * c ≤ p → p < b → tag d'[p]! / (2 * B) = c := fun p k1 k2 => by
    refine permIn_all d d' (2 * B * c) b (fun x => tag x / (2 * B) = c) (by omega) hm.1 (fun i i1 i2 => ?_) p k1 k2
    have := h.thi i i1 (by omega)
    show tag d[i]! / (2 * B) = c
    rw [div2, this, ← div2]
    exact e1 i i1 i2
  refine ⟨hs.trans hsz, fun p q k1 k2 k3 k4 => ?_, fun p q k1 k2 k3 k4 => ?_, fun p k1 k2 => ?_, fun p k1 k2 => ?_⟩
  · by_cases z1 : q < 2 * B * c
    · rw [lowT p (by omega), lowT q z1]
      exact h.lo p q k1 z1 k3 k4
    · have z2 : q < b := by omega
      rw [e1 q (by omega) z2] at k4
      by_cases z3 : p < 2 * B * c
      · have := e0 p z3; omega
      · exact hm.2 p q (by omega) k1 z2
  · rw [hiT p (by omega), hiT q (by omega)]
    exact h.hi p q (by omega) k2 k3 k4
  · by_cases z1 : p < 2 * B * c
    · rw [lowT p z1]
      exact h.tlo p z1 k2
    · rw [inT p (by omega) (by omega), e1 p (by omega) (by omega)]
  · rw [hiT p (by omega)]
    exact h.thi p (by omega) k2
/-- All pairs merged: blocks of twice the size. -/
theorem Bk.twice {B c n : Nat} (h : Bk key tag B (2 * B * c) n d) (hB : 0 < B) (hc : n ≤ 2 * B * c + B) : Bk key tag (2 * B) 0 n d := by
  have hc0 : ∀ p, 2 * B * c ≤ p → p < n → p / B = 2 * c := fun p k1 k2 => by
    rw [Nat.mul_right_comm] at k1 hc
    have a1 : 2 * c ≤ p / B := (Nat.le_div_iff_mul_le hB).2 k1
    have a2 : p / B < 2 * c + 1 := (Nat.div_lt_iff_lt_mul hB).2 (by rw [Nat.succ_mul]; omega)
    omega
  refine ⟨h.sz, fun p q _ k2 => by omega, fun p q _ k1 k2 k3 => ?_, fun p k => by omega, fun p _ k => ?_⟩
  · by_cases z : q < 2 * B * c
    · exact h.lo p q k1 z k2 k3
    · have z3 : p / (2 * B) = c := by rw [k3, div2, hc0 q (by omega) k2]; omega
      have z2 : 2 * B * c ≤ p := by rw [← z3]; exact Nat.mul_div_le p (2 * B)
      exact h.hi p q z2 k1 k2 (by rw [hc0 p z2 (by omega), hc0 q (by omega) k2])
  · by_cases z : p < 2 * B * c
    · exact h.tlo p z k
    · have := h.thi p (by omega) k
      rw [div2, this, ← div2]
/-- One block: all is sorted. -/
theorem Bk.all {B n : Nat} (h : Bk key tag B 0 n d) (hn : n ≤ B) : SortedIn (ahd key tag) 0 n d := fun p q _ k2 k3 =>
  h.hi p q (Nat.zero_le _) k2 k3 (by rw [Nat.div_eq_of_lt (by omega), Nat.div_eq_of_lt (by omega)])
/-- Sorted so far: blocks ahead of c; behind them all lies as it came. -/
structure Ik (key : α → Int) (tag : α → Nat) (B c n : Nat) (d : Array α) : Prop where
  sz : d.size = n
  lo : ∀ p q, p < q → q < c → q < n → p / B = q / B → ahd key tag d[q]! d[p]! = false
  tlo : ∀ p, p < c → p < n → tag d[p]! / B = p / B
  thi : ∀ p, c ≤ p → p < n → tag d[p]! = p
theorem Ik.start {B n : Nat} (hs : d.size = n) (h : ∀ p, p < n → tag d[p]! = p) : Ik key tag B 0 n d := ⟨hs, fun _ _ _ k => by omega, fun _ k => by omega, fun p _ k => h p k⟩
theorem Ik.step {B c n b : Nat} (h : Ik key tag B (B * c) n d) (hB : 0 < B) (hb : b ≤ n) (hcb : B * c ≤ b) (h2 : b ≤ B * c + B) (h3 : b = B * c + B ∨ b = n) : Ik key tag B (B * (c + 1)) n (insertionSort (brt key) d (B * c) b) := by
  have hsz := h.sz
  have hm := insertion_stable (key := key) (tag := tag) (a := B * c) (b := b) (d := d) hcb (by omega) (fun p q k1 k2 k3 => by rw [h.thi p k1 (by omega), h.thi q (by omega) (by omega)]; exact k2)
  generalize insertionSort (brt key) d (B * c) b = d' at *
  have hs : d'.size = d.size := hm.1.1
  have ec : B * (c + 1) = B * c + B := by rw [Nat.mul_add, Nat.mul_one]
  have e1 : ∀ p, B * c ≤ p → p < b → p / B = c := fun p k1 k2 => by
    have a1 : c ≤ p / B := (Nat.le_div_iff_mul_le hB).2 (by rw [Nat.mul_comm]; exact k1)
    have a2 : p / B < c + 1 := (Nat.div_lt_iff_lt_mul hB).2 (by rw [Nat.mul_comm, ec]; omega)
    omega
  have e0 : ∀ p, p < B * c → p / B < c := fun p k => (Nat.div_lt_iff_lt_mul hB).2 (by rw [Nat.mul_comm]; exact k)
  have lowT : ∀ p, p < B * c → d'[p]! = d[p]! := fun p k => hm.1.2.1 p (Or.inl k)
  have hiT : ∀ p, b ≤ p → d'[p]! = d[p]! := fun p k => hm.1.2.1 p (Or.inr k)
  have inT : ∀ p, B * c ≤ p → p < b → tag d'[p]! / B = c := fun p k1 k2 => by
    refine permIn_all d d' (B * c) b (fun x => tag x / B = c) (by omega) hm.1 (fun i i1 i2 => ?_) p k1 k2
    show tag d[i]! / B = c
    rw [h.thi i i1 (by omega)]
    exact e1 i i1 i2
  refine ⟨hs.trans hsz, fun p q k1 k2 k3 k4 => ?_, fun p k1 k2 => ?_, fun p k1 k2 => ?_⟩
  · by_cases z1 : q < B * c
    · rw [lowT p (by omega), lowT q z1]
      exact h.lo p q k1 z1 k3 k4
    · have z2 : q < b := by omega
      rw [e1 q (by omega) z2] at k4
      by_cases z3 : p < B * c
      · have := e0 p z3; omega
      · exact hm.2 p q (by omega) k1 z2
  · by_cases z1 : p < B * c
    · rw [lowT p z1]
      exact h.tlo p z1 k2
    · rw [inT p (by omega) (by omega), e1 p (by omega) (by omega)]
  · rw [hiT p (by omega)]
    exact h.thi p (by omega) k2
theorem Ik.blocks {B c n : Nat} (h : Ik key tag B c n d) (hc : n ≤ c) : Bk key tag B 0 n d :=
  ⟨h.sz, fun p q _ k => by omega, fun p q _ k1 k2 k3 => h.lo p q k1 (by omega) k2 k3, fun p k => by omega, fun p _ k => h.tlo p (by omega) k⟩
end
end Go.Proofs.YthbekddpnkammaaGreatDoor
