/- The text of an angle, read: plain laws. -/
import Derived.Test.YtpkifhmnibepiaaDoorRunesW
import Derived.Test.YtpkifhmnibepiaaDoorScan
import Derived.Test.YtpkifhmnibepiaaDoorSixty
import Derived.Test.YtpkifhmnibepiaaDoorArcA
import Derived.Test.YtpkifhmnibepiaaDoorDegs
import Derived.Test.YtpkifhmnibepiaaDoorHours
namespace Go.Proofs.YtpkifhmnibepiaaDoor
open Go.RowKit

/-- The bytes of a code: those that the texts of an angle hold. -/
def enc (c : Nat) : List UInt8 := if c = 176 then [194, 176] else if c = 8242 then [226, 128, 178] else if c = 8243 then [226, 128, 179] else [UInt8.ofNat c]
def Code1 (c : Nat) : Prop := c < 128 ∨ c = 176 ∨ c = 8242 ∨ c = 8243
def txt (l : List Nat) : List UInt8 := l.flatMap enc
theorem bt_bs (l : List UInt8) (i : Nat) : bt (bs l) i = (l.getD i 0).toNat := by
  unfold bt bs
  simp [ByteArray.get!, Array.getElem!_eq_getD]
  rfl
theorem bt_at (p : List UInt8) (t : List UInt8) (k : Nat) : bt (bs (p ++ t)) (p.length + k) = (t.getD k 0).toNat := by
  rw [bt_bs, List.getD_eq_getElem?_getD, List.getElem?_append_right (by omega), show p.length + k - p.length = k by omega, ← List.getD_eq_getElem?_getD]
theorem dec_enc (p t : List UInt8) (c : Nat) (hc : Code1 c) : Utf8.decode (bs (p ++ (enc c ++ t))) p.length = (c, (enc c).length) := by
  have b0 := bt_at p (enc c ++ t) 0
  have b1 := bt_at p (enc c ++ t) 1
  have b2 := bt_at p (enc c ++ t) 2
  have hz : (bs (p ++ (enc c ++ t))).size = p.length + ((enc c).length + t.length) := by rw [bs_size]; simp
  generalize bs (p ++ (enc c ++ t)) = s at *
  rw [Nat.add_zero] at b0
  rcases hc with h | h | h | h
  · have e : enc c = [UInt8.ofNat c] := by unfold enc; rw [if_neg (by omega), if_neg (by omega), if_neg (by omega)]
    rw [e] at b0 ⊢
    have b : bt s p.length = c := by rw [b0]; simp; omega
    rw [dec1 (by omega), b]; rfl
  · subst h
    have x0 : bt s p.length = 194 := by rw [b0]; rfl
    have x1 : bt s (p.length + 1) = 176 := by rw [b1]; rfl
    have z : (enc 176).length = 2 := rfl
    rw [dec2 (by omega) ⟨by omega, by omega⟩, x0, x1, z]; rfl
  · subst h
    have x0 : bt s p.length = 226 := by rw [b0]; rfl
    have x1 : bt s (p.length + 1) = 128 := by rw [b1]; rfl
    have x2 : bt s (p.length + 2) = 178 := by rw [b2]; rfl
    have z : (enc 8242).length = 3 := rfl
    have v : v3 s p.length = 8242 := by unfold v3; omega
    rw [dec3 (by omega) ⟨by omega, by omega⟩ ⟨by omega, by omega⟩, v, if_pos (by unfold Vd; omega), z]
  · subst h
    have x0 : bt s p.length = 226 := by rw [b0]; rfl
    have x1 : bt s (p.length + 1) = 128 := by rw [b1]; rfl
    have x2 : bt s (p.length + 2) = 179 := by rw [b2]; rfl
    have z : (enc 8243).length = 3 := rfl
    have v : v3 s p.length = 8243 := by unfold v3; omega
    rw [dec3 (by omega) ⟨by omega, by omega⟩ ⟨by omega, by omega⟩, v, if_pos (by unfold Vd; omega), z]
theorem enc_pos (c : Nat) : 1 ≤ (enc c).length := by unfold enc; repeat' split
                                                     all_goals simp
theorem txt_len : ∀ l : List Nat, l.length ≤ (txt l).length
  | [] => Nat.zero_le _
  | c :: r => by
    have h := txt_len r
    have h1 := enc_pos c
    unfold txt at h ⊢
    rw [List.flatMap_cons, List.length_append, List.length_cons]; omega
theorem rdec_txt : ∀ (l : List Nat) (p : List UInt8) (b : Nat), (∀ c, c ∈ l → Code1 c) → l.length ≤ b → rdec (bs (p ++ txt l)) b p.length = l
  | [], p, b, _, _ => by
    cases b with
    | zero => rfl
    | succ b => unfold rdec; rw [if_neg (by rw [bs_size]; simp [txt])]
  | c :: r, p, b, hc, hb => by
    cases b with
    | zero => simp at hb
    | succ b =>
      have h1 := enc_pos c
      have e : txt (c :: r) = enc c ++ txt r := by unfold txt; rw [List.flatMap_cons]
      unfold rdec
      rw [e, if_pos (by rw [bs_size]; simp; omega), dec_enc p (txt r) c (hc c (List.mem_cons_self ..))]
      have ih := rdec_txt r (p ++ enc c) b (fun x hx => hc x (List.mem_cons_of_mem _ hx)) (by simp at hb; omega)
      rw [List.length_append, List.append_assoc] at ih
      simp only
      rw [ih]
theorem runes_txt (l : List Nat) (h : ∀ c, c ∈ l → Code1 c) : runes (bs (txt l)) = l := by
  have e := rdec_txt l [] (bs (txt l)).size h (by rw [bs_size]; exact txt_len l)
  simpa [runes] using e
theorem txt_append (a b : List Nat) : txt (a ++ b) = txt a ++ txt b := by unfold txt; rw [List.flatMap_append]
/-- The codes of w digits. -/
def wideN (w n : Nat) : List Nat := (wideL w n).map (·.toNat)
theorem wideL_mem : ∀ w n x, x ∈ wideL w n → 48 ≤ x.toNat ∧ x.toNat ≤ 57
  | 0, _, _, h => by cases h
  | w + 1, n, x, h => by
    rw [wideL] at h
    rcases List.mem_append.1 h with h | h
    · exact wideL_mem w _ x h
    · rw [List.mem_singleton] at h
      subst h
      simp; omega
theorem txt_ascii : ∀ l : List UInt8, (∀ x, x ∈ l → x.toNat < 128) → txt (l.map (·.toNat)) = l
  | [], _ => rfl
  | x :: r, h => by
    have h0 := h x (List.mem_cons_self ..)
    have ih := txt_ascii r (fun y hy => h y (List.mem_cons_of_mem _ hy))
    have e : enc x.toNat = [x] := by unfold enc; rw [if_neg (by omega), if_neg (by omega), if_neg (by omega)]; simp
    unfold txt at ih ⊢
    rw [List.map_cons, List.flatMap_cons, e, ih]; rfl
theorem txt_wide (w n : Nat) : txt (wideN w n) = wideL w n := txt_ascii _ fun x hx => by have := wideL_mem w n x hx; omega
theorem wideN_length (w n : Nat) : (wideN w n).length = w := by unfold wideN; rw [List.length_map, wideL_length]
theorem wideN_code (w n c : Nat) (h : c ∈ wideN w n) : Code1 c := by
  unfold wideN at h
  obtain ⟨x, hx, rfl⟩ := List.mem_map.1 h
  have := wideL_mem w n x hx
  exact Or.inl (by omega)

/-- The list stands in the row from a on. -/
def Has (s : Nat → Int) (a : Nat) (l : List Nat) : Prop := ∀ j, j < l.length → s (a + j) = (l.getD j 0 : Nat)
theorem Has.append {s : Nat → Int} {a : Nat} {l r : List Nat} (h : Has s a (l ++ r)) : Has s a l ∧ Has s (a + l.length) r := by
  refine ⟨fun j hj => ?_, fun j hj => ?_⟩
  · rw [h j (by rw [List.length_append]; omega), List.getD_eq_getElem?_getD, List.getElem?_append_left hj, ← List.getD_eq_getElem?_getD]
  · rw [Nat.add_assoc, h (l.length + j) (by rw [List.length_append]; omega), List.getD_eq_getElem?_getD, List.getElem?_append_right (by omega), show l.length + j - l.length = j by omega, ← List.getD_eq_getElem?_getD]
theorem Has.head {s : Nat → Int} {a c : Nat} {r : List Nat} (h : Has s a (c :: r)) : s a = c ∧ Has s (a + 1) r := by
  refine ⟨by simpa using h 0 (by simp), fun j hj => ?_⟩
  have := h (j + 1) (by simpa using hj)
  rw [show a + (j + 1) = a + 1 + j by omega] at this
  simpa using this
theorem Has.see (l : List Nat) {L : Nat → Int} (hL : ∀ j, j < l.length → L j = (l.getD j 0 : Nat)) : Has (seeF l.length L) 0 l := fun j hj => by
  rw [Nat.zero_add, seeF_in hj, hL j hj]
theorem cnt_run {s : Nat → Int} : ∀ w m a, w ≤ m → (∀ j, j < w → isD (s (a + j)) = true) → (w = m ∨ isD (s (a + w)) = false) → cnt s m a = w
  | 0, 0, _, _, _, _ => rfl
  | 0, m + 1, a, _, _, h => by
    have e : isD (s a) = false := by simpa using h
    unfold cnt; rw [e]; rfl
  | w + 1, 0, _, h, _, _ => by omega
  | w + 1, m + 1, a, h, hd, he => by
    have e : isD (s a) = true := hd 0 (by omega)
    have ih := cnt_run w m (a + 1) (by omega) (fun j hj => by have := hd (j + 1) (by omega); rwa [show a + (j + 1) = a + 1 + j by omega] at this) (by
      rcases he with he | he
      · exact Or.inl (by omega)
      · exact Or.inr (by rwa [show a + 1 + w = a + (w + 1) by omega]))
    unfold cnt; rw [e, ih]; rfl
theorem numV_wide {s : Nat → Int} {a : Nat} : ∀ w n, Has s a (wideN w n) → numV s a w = (n % 10 ^ w : Nat)
  | 0, n, _ => by simp [numV, Nat.mod_one]
  | w + 1, n, h => by
    have e : wideN (w + 1) n = wideN w (n / 10) ++ [48 + n % 10] := by
      unfold wideN; rw [wideL, List.map_append]
      simp; omega
    rw [e] at h
    obtain ⟨h1, h2⟩ := h.append
    have ih := numV_wide w (n / 10) h1
    have h3 := h2.head.1
    rw [wideN_length] at h3
    unfold numV
    rw [ih, h3, show n % 10 ^ (w + 1) = (n / 10 % 10 ^ w) * 10 + n % 10 by rw [Nat.pow_succ, Nat.mul_comm (10 ^ w), Nat.mod_mul]; omega]
    omega
theorem numO_wide {s : Nat → Int} {a w n l m : Nat} (h : Has s a (wideN w n)) (hl : l ≤ w) (hm : w ≤ m) (he : w = m ∨ isD (s (a + w)) = false) (hn : n < 10 ^ w) : numO s l m a = .ok n (a + w) := by
  have hc : cnt s m a = w := cnt_run w m a hm (fun j hj => by
    have hj' : j < (wideN w n).length := by rw [wideN_length]; exact hj
    rw [h j hj']
    have hm := wideL_mem w n ((wideL w n)[j]'(by rw [wideL_length]; exact hj)) (List.getElem_mem _)
    have e : (wideN w n).getD j 0 = ((wideL w n)[j]'(by rw [wideL_length]; exact hj)).toNat := by
      unfold wideN; rw [List.getD_eq_getElem?_getD, List.getElem?_map, List.getElem?_eq_getElem (by rw [wideL_length]; exact hj)]; rfl
    rw [e]
    unfold isD; simp; omega) he
  unfold numO
  rw [hc, if_neg (by omega), numV_wide w n h, Nat.mod_eq_of_lt hn]
def sixN (n f s t : Nat) : List Nat := f :: (wideN 2 (n / 60000000 % 60) ++ s :: (wideN 2 (n / 1000000 % 60) ++ 46 :: (wideN 6 (n % 1000000) ++ [t])))
theorem sixN_length (n f s t : Nat) : (sixN n f s t).length = 14 := by
  unfold sixN; simp [wideN_length]
theorem rest_six {s : Nat → Int} {n a N mn sc f : Nat} (h : Has s a (sixN n f mn sc)) (hN : N = a + 14) (_hm : isD (mn : Int) = false) (_hs : isD (sc : Int) = false) :
    s a = f ∧ restO s N mn sc (a + 1) = .ok ((n / 60000000 % 60 : Nat) * 60000000 + (n / 1000000 % 60 : Nat) * 1000000 + (n % 1000000 : Nat)) N := by
  obtain ⟨hf, h⟩ := h.head
  obtain ⟨h1, h⟩ := h.append
  rw [wideN_length] at h
  obtain ⟨hmn, h⟩ := h.head
  obtain ⟨h2, h⟩ := h.append
  rw [wideN_length] at h
  obtain ⟨hp, h⟩ := h.head
  obtain ⟨h3, h⟩ := h.append
  rw [wideN_length] at h
  obtain ⟨hsc, _⟩ := h.head
  refine ⟨hf, ?_⟩
  have n1 := numO_wide (l := 2) (m := 2) h1 (by omega) (by omega) (Or.inl rfl) (by omega)
  have n2 := numO_wide (l := 2) (m := 2) h2 (by omega) (by omega) (Or.inl rfl) (by omega)
  have n3 := numO_wide (l := 1) (m := 6) h3 (by omega) (by omega) (Or.inl rfl) (by omega)
  have hx : n / 60000000 % 60 < 60 := by omega
  have hy : n / 1000000 % 60 < 60 := by omega
  generalize n / 60000000 % 60 = x at *
  generalize n / 1000000 % 60 = y at *
  generalize n % 1000000 = z at *
  have s1 : sixtyO s (a + 1) = .ok x (a + 1 + 2) := by unfold sixtyO; rw [n1]; exact if_neg (by omega)
  have s2 : sixtyO s (a + 1 + 2 + 1) = .ok y (a + 1 + 2 + 1 + 2) := by unfold sixtyO; rw [n2]; exact if_neg (by omega)
  have s3 : partO s (a + 1 + 2 + 1 + 2 + 1) = .ok z (a + 1 + 2 + 1 + 2 + 1 + 6) := by
    unfold partO; rw [n3]
    simp only
    rw [show 6 - (a + 1 + 2 + 1 + 2 + 1 + 6 - (a + 1 + 2 + 1 + 2 + 1)) = 0 by omega]
    simp
  unfold restO
  rw [if_neg (by omega), s1]
  simp only
  rw [if_pos hmn, if_neg (by omega)]
  unfold secO
  rw [s2]
  simp only
  rw [if_pos (show s (a + 1 + 2 + 1 + 2) = 46 from hp), s3]
  simp only
  unfold endO
  rw [if_pos hsc, if_neg (by omega), hN]
theorem wideN_dig {s : Nat → Int} {a w n : Nat} (h : Has s a (wideN w n)) (hw : 1 ≤ w) : 48 ≤ s a ∧ s a ≤ 57 := by
  have h0 := h 0 (by rw [wideN_length]; omega)
  rw [Nat.add_zero] at h0
  have hm := wideL_mem w n ((wideL w n)[0]'(by rw [wideL_length]; omega)) (List.getElem_mem _)
  have e : (wideN w n).getD 0 0 = ((wideL w n)[0]'(by rw [wideL_length]; omega)).toNat := by
    unfold wideN; rw [List.getD_eq_getElem?_getD, List.getElem?_map, List.getElem?_eq_getElem (by rw [wideL_length]; omega)]; rfl
  rw [h0, e]
  omega
theorem deg_pos {s : Nat → Int} {n k : Nat} (hk : 1 ≤ k) (hk6 : k ≤ 6) (hq : n / 3600000000 < 10 ^ k) (h : Has s 0 (wideN k (n / 3600000000) ++ sixN n 176 8242 8243)) : degO s (k + 14) = .ok (n : Int) (k + 14) := by
  obtain ⟨h1, h2⟩ := h.append
  rw [wideN_length] at h2
  have hd := wideN_dig h1 hk
  obtain ⟨h3, h4⟩ := rest_six (N := k + 14) h2 (by omega) (by decide) (by decide)
  have h0 := numO_wide (l := 1) (m := 6) h1 hk hk6 (Or.inr (by rw [h3]; decide)) hq
  rw [Nat.zero_add] at h0 h3 h4
  have c1 : ¬ (s 0 = 45 ∨ s 0 = 43) := by omega
  have c2 : ¬ s 0 = 45 := by omega
  have h3' : s k = 176 := h3
  have h4' : restO s (k + 14) 8242 8243 (k + 1) = _ := h4
  unfold degO
  rw [if_neg c1, h0]
  simp only
  rw [if_pos h3']
  rw [h4']
  simp only
  rw [if_neg c2]
  congr 1
  omega
theorem deg_neg {s : Nat → Int} {n k : Nat} (hk : 1 ≤ k) (hk6 : k ≤ 6) (hq : n / 3600000000 < 10 ^ k) (h : Has s 0 (45 :: (wideN k (n / 3600000000) ++ sixN n 176 8242 8243))) : degO s (1 + k + 14) = .ok (-(n : Int)) (1 + k + 14) := by
  obtain ⟨h45, h⟩ := h.head
  obtain ⟨h1, h2⟩ := h.append
  rw [wideN_length] at h2
  obtain ⟨h3, h4⟩ := rest_six (N := 1 + k + 14) h2 (by omega) (by decide) (by decide)
  have h0 := numO_wide (l := 1) (m := 6) h1 hk hk6 (Or.inr (by rw [h3]; decide)) hq
  rw [Nat.zero_add] at h0 h3 h4
  have c2 : s 0 = 45 := h45
  have h3' : s (1 + k) = 176 := h3
  have h4' : restO s (1 + k + 14) 8242 8243 (1 + k + 1) = _ := h4
  unfold degO
  rw [if_pos (Or.inl c2), h0]
  simp only
  rw [if_pos h3']
  rw [h4']
  simp only
  rw [if_pos c2]
  congr 1
  omega
theorem hou_text {s : Nat → Int} {n : Nat} (hn : n < 86400000000) (h : Has s 0 (wideN 2 (n / 3600000000) ++ sixN n 104 109 115)) : houO s (2 + 14) = .ok ((n : Int) * 15) (2 + 14) := by
  obtain ⟨h1, h2⟩ := h.append
  rw [wideN_length] at h2
  obtain ⟨h3, h4⟩ := rest_six (N := 2 + 14) h2 (by omega) (by decide) (by decide)
  have h0 := numO_wide (l := 1) (m := 2) h1 (by omega) (by omega) (Or.inl rfl) (by omega)
  rw [Nat.zero_add] at h0 h3 h4
  unfold houO
  rw [h0]
  simp only
  have h3' : s 2 = 104 := h3
  have h4' : restO s (2 + 14) 109 115 (2 + 1) = _ := h4
  rw [if_neg (by omega), if_pos h3']
  rw [h4']
  simp only
  congr 1
  omega
theorem digits_wide : ∀ k n, n < 10 ^ k → 1 ≤ k → ∃ w, 1 ≤ w ∧ w ≤ k ∧ n < 10 ^ w ∧ Lib.decDigits n = wideL w n
  | 0, _, _, h => by omega
  | k + 1, n, h, _ => by
    by_cases c : n < 10
    · refine ⟨1, by omega, by omega, by omega, ?_⟩
      rw [Lib.decDigits_one c]
      simp [wideL, Nat.mod_eq_of_lt c]
    · rw [Nat.pow_succ] at h
      have hk : 1 ≤ k := by
        cases k with
        | zero => omega
        | succ k => omega
      obtain ⟨w, h1, h2, h3, h4⟩ := digits_wide k (n / 10) (by omega) hk
      refine ⟨w + 1, by omega, by omega, by rw [Nat.pow_succ]; omega, ?_⟩
      rw [decDigits_big c, h4, wideL]
theorem six_txt (n f s t : Nat) (hf : Code1 f) (hs : Code1 s) (ht : Code1 t) : txt (sixN n f s t) = sixL n (enc f) (enc s) (enc t) ∧ ∀ c, c ∈ sixN n f s t → Code1 c := by
  refine ⟨?_, fun c hc => ?_⟩
  · unfold sixN sixL
    have hcons : ∀ c r, txt (c :: r) = enc c ++ txt r := fun c r => by unfold txt; rw [List.flatMap_cons]
    rw [hcons, txt_append, hcons, txt_append, hcons, txt_append, hcons, txt_wide, txt_wide, txt_wide, show enc 46 = [46] from rfl, show txt [] = [] from rfl]
    simp
  · unfold sixN at hc
    simp only [List.mem_cons, List.mem_append, List.not_mem_nil, or_false] at hc
    rcases hc with rfl | hc | rfl | hc | rfl | hc | rfl
    · exact hf
    · exact wideN_code _ _ _ hc
    · exact hs
    · exact wideN_code _ _ _ hc
    · exact Or.inl (by decide)
    · exact wideN_code _ _ _ hc
    · exact ht
/-- Degrees of a text of degrees. -/
theorem deg_back (neg : Bool) (n : Nat) (hn : n < 3600000000000000) : ∃ j, degO (seeF (runes (bs (degL neg n))).length (runeL (bs (degL neg n)))) (runes (bs (degL neg n))).length = .ok (if neg then -(n : Int) else n) j := by
  obtain ⟨k, k1, k6, hq, hd⟩ := digits_wide 6 (n / 3600000000) (by omega) (by omega)
  obtain ⟨e6, c6⟩ := six_txt n 176 8242 8243 (Or.inr (Or.inl rfl)) (Or.inr (Or.inr (Or.inl rfl))) (Or.inr (Or.inr (Or.inr rfl)))
  cases neg with
  | false =>
    have e : degL false n = txt (wideN k (n / 3600000000) ++ sixN n 176 8242 8243) := by
      rw [txt_append, txt_wide, e6, ← hd]; unfold degL; simp [enc]
    have hr := runes_txt (wideN k (n / 3600000000) ++ sixN n 176 8242 8243) (fun c hc => by
      rcases List.mem_append.1 hc with h | h
      · exact wideN_code _ _ _ h
      · exact c6 c h)
    rw [e]
    unfold runeL
    rw [hr]
    have hl : (wideN k (n / 3600000000) ++ sixN n 176 8242 8243).length = k + 14 := by rw [List.length_append, wideN_length, sixN_length]
    have := deg_pos k1 k6 hq (Has.see (wideN k (n / 3600000000) ++ sixN n 176 8242 8243) (L := fun j => ((wideN k (n / 3600000000) ++ sixN n 176 8242 8243).getD j 0 : Nat)) (fun _ _ => rfl))
    rw [← hl] at this
    exact ⟨_, this⟩
  | true =>
    have e : degL true n = txt (45 :: (wideN k (n / 3600000000) ++ sixN n 176 8242 8243)) := by
      rw [show (45 :: (wideN k (n / 3600000000) ++ sixN n 176 8242 8243)) = [45] ++ (wideN k (n / 3600000000) ++ sixN n 176 8242 8243) from rfl, txt_append, txt_append, txt_wide, e6, ← hd]; unfold degL; simp [enc, txt]
    have hr := runes_txt (45 :: (wideN k (n / 3600000000) ++ sixN n 176 8242 8243)) (fun c hc => by
      rcases List.mem_cons.1 hc with rfl | hc
      · exact Or.inl (by decide)
      rcases List.mem_append.1 hc with h | h
      · exact wideN_code _ _ _ h
      · exact c6 c h)
    rw [e]
    unfold runeL
    rw [hr]
    have hl : (45 :: (wideN k (n / 3600000000) ++ sixN n 176 8242 8243)).length = 1 + k + 14 := by rw [List.length_cons, List.length_append, wideN_length, sixN_length]; omega
    have := deg_neg k1 k6 hq (Has.see (45 :: (wideN k (n / 3600000000) ++ sixN n 176 8242 8243)) (L := fun j => ((45 :: (wideN k (n / 3600000000) ++ sixN n 176 8242 8243)).getD j 0 : Nat)) (fun _ _ => rfl))
    rw [← hl] at this
    exact ⟨_, this⟩
theorem hou_back (n : Nat) (hn : n < 86400000000) : ∃ j, houO (seeF (runes (bs (houL n))).length (runeL (bs (houL n)))) (runes (bs (houL n))).length = .ok ((n : Int) * 15) j := by
  obtain ⟨e6, c6⟩ := six_txt n 104 109 115 (Or.inl (by decide)) (Or.inl (by decide)) (Or.inl (by decide))
  have e : houL n = txt (wideN 2 (n / 3600000000) ++ sixN n 104 109 115) := by
    rw [txt_append, txt_wide, e6]; unfold houL; simp [enc]
  have hr := runes_txt (wideN 2 (n / 3600000000) ++ sixN n 104 109 115) (fun c hc => by
    rcases List.mem_append.1 hc with h | h
    · exact wideN_code _ _ _ h
    · exact c6 c h)
  rw [e]
  unfold runeL
  rw [hr]
  have hl : (wideN 2 (n / 3600000000) ++ sixN n 104 109 115).length = 2 + 14 := by rw [List.length_append, wideN_length, sixN_length]
  have := hou_text hn (Has.see (wideN 2 (n / 3600000000) ++ sixN n 104 109 115) (L := fun j => ((wideN 2 (n / 3600000000) ++ sixN n 104 109 115).getD j 0 : Nat)) (fun _ _ => rfl))
  rw [← hl] at this
  exact ⟨_, this⟩
theorem hou_near (a : Int) : apt (houN a * 15) a ≤ 7 := by
  unfold apt sgn houN nrm
  repeat' split
  all_goals omega
end Go.Proofs.YtpkifhmnibepiaaDoor
