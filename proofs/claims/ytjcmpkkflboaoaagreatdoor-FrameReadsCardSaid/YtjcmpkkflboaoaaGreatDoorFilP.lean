/- Files of pictures: plain laws of their bytes. -/
import Derived.Test.YtjcmpkkflboaoaaGreatDoorTxtP
import Derived.Lib.TrimByte
namespace Go.Proofs.YtjcmpkkflboaoaaGreatDoor

/-! ### rows of cards -/
/-- Filled up behind to so many. -/
def padR (l : List UInt8) (n : Nat) (c : UInt8) : List UInt8 := l ++ List.replicate (n - l.length) c
theorem padR_len {l : List UInt8} {n : Nat} {c : UInt8} (h : l.length ≤ n) : (padR l n c).length = n := by
  unfold padR
  rw [List.length_append, List.length_replicate]
  omega
theorem padR_more {l : List UInt8} {n : Nat} {c : UInt8} (h : n ≤ l.length) : padR l n c = l := by
  unfold padR
  rw [Nat.sub_eq_zero_of_le h, List.replicate_zero, List.append_nil]
theorem padR_step {l : List UInt8} {n : Nat} {c : UInt8} (h : l.length < n) : padR (l ++ [c]) n c = padR l n c := by
  unfold padR
  rw [List.length_append, List.length_singleton, List.append_assoc, show n - l.length = (n - (l.length + 1)) + 1 by omega, List.replicate_succ]
  rfl
/-- A card: its name, its value. -/
abbrev Crd := List UInt8 × List UInt8
/-- A card's row. -/
def rowC (c : Crd) : List UInt8 := padR (padR c.1 8 32 ++ [61, 32] ++ c.2) 80 32
/-- The card is short enough for a row. -/
def shortC (c : Crd) : Prop := c.1.length ≤ 8 ∧ c.2.length ≤ 70
theorem rowC_len {c : Crd} (h : shortC c) : (rowC c).length = 80 := by
  unfold rowC
  refine padR_len ?_
  rw [List.length_append, List.length_append, padR_len h.1]
  have := h.2
  simp
  omega
/-- The rows of cards. -/
def allR : List Crd → List UInt8
  | [] => []
  | c :: L => rowC c ++ allR L
theorem allR_app (A B : List Crd) : allR (A ++ B) = allR A ++ allR B := by
  induction A with
  | nil => rfl
  | cons c A ih => show rowC c ++ allR (A ++ B) = rowC c ++ allR A ++ allR B; rw [ih, List.append_assoc]
theorem allR_one (A : List Crd) (c : Crd) : allR (A ++ [c]) = allR A ++ rowC c := by
  rw [allR_app]
  show allR A ++ (rowC c ++ []) = _
  rw [List.append_nil]
theorem allR_len {A : List Crd} (h : ∀ c, c ∈ A → shortC c) : (allR A).length = 80 * A.length := by
  induction A with
  | nil => rfl
  | cons c A ih =>
    show (rowC c ++ allR A).length = _
    rw [List.length_append, rowC_len (h c (List.mem_cons_self ..)), ih (fun d hd => h d (List.mem_cons_of_mem _ hd)), List.length_cons]
    omega
/-- The first cards of a file. -/
def fixC (W H : Nat) : List Crd := [([83, 73, 77, 80, 76, 69], [84]), ([66, 73, 84, 80, 73, 88], [49, 54]), ([78, 65, 88, 73, 83], [50]), ([78, 65, 88, 73, 83, 49], Lib.decDigits W), ([78, 65, 88, 73, 83, 50], Lib.decDigits H), ([66, 90, 69, 82, 79], [51, 50, 55, 54, 56])]
theorem dec_short {n : Nat} (h : n ≤ 256) : (Lib.decDigits n).length ≤ 3 := by
  rw [← padL_one]
  exact padL_length_le (k := 3) (by omega) (by decide) (by decide)
theorem fixC_short {W H : Nat} (hW : W ≤ 256) (hH : H ≤ 256) : ∀ c, c ∈ fixC W H → shortC c := by
  intro c hc
  have h1 := dec_short hW
  have h2 := dec_short hH
  unfold fixC at hc
  simp only [List.mem_cons, List.not_mem_nil, or_false] at hc
  rcases hc with rfl | rfl | rfl | rfl | rfl | rfl
  all_goals (unfold shortC; simp)
  all_goals omega

/-! ### blocks and pixels -/
/-- Whole blocks. -/
def blk (n : Nat) : Nat := (n + 2879) / 2880 * 2880
theorem blk_le (n : Nat) : n ≤ blk n := by unfold blk; omega
theorem blk_row (m : Nat) : blk (80 * m + 80) = blk (80 * m + 3) := by unfold blk; omega
/-- The rows, and the end. -/
def hdL (W H : Nat) (cs : List Crd) : List UInt8 := padR (allR (fixC W H ++ cs) ++ [69, 78, 68]) (blk (allR (fixC W H ++ cs) ++ [69, 78, 68]).length) 32
/-- A pixel's two bytes. -/
def b2 (v : Int) : List UInt8 := [UInt8.ofNat (((v + 32768) % 65536).toNat / 256), UInt8.ofNat (((v + 32768) % 65536).toNat % 256)]
/-- The first pixels of a row. -/
def rowD (W : Nat) (f : Nat → Int) (y : Nat) : Nat → List UInt8
  | 0 => []
  | x + 1 => rowD W f y x ++ b2 (f (y * W + x))
/-- The rows, the lowest first. -/
def datD (W H : Nat) (f : Nat → Int) : Nat → List UInt8
  | 0 => []
  | k + 1 => datD W H f k ++ rowD W f (H - 1 - k) W
theorem rowD_len (W : Nat) (f : Nat → Int) (y x : Nat) : (rowD W f y x).length = 2 * x := by
  induction x with
  | zero => rfl
  | succ x ih => rw [rowD, List.length_append, ih]; show 2 * x + 2 = _; omega
theorem datD_len (W H : Nat) (f : Nat → Int) (k : Nat) : (datD W H f k).length = 2 * (k * W) := by
  induction k with
  | zero => rw [Nat.zero_mul]; rfl
  | succ k ih => rw [datD, List.length_append, ih, rowD_len, Nat.add_mul, Nat.one_mul]; omega
/-- A file. -/
def fileL (W H : Nat) (f : Nat → Int) (cs : List Crd) : List UInt8 := padR (hdL W H cs ++ datD W H f H) (blk (hdL W H cs ++ datD W H f H).length) 0
theorem hdL_len {W H : Nat} {cs : List Crd} (hW : W ≤ 256) (hH : H ≤ 256) (hc : ∀ c, c ∈ cs → shortC c) : (hdL W H cs).length = blk (80 * (6 + cs.length) + 80) := by
  have h1 : ∀ c, c ∈ fixC W H ++ cs → shortC c := fun c h => by
    rcases List.mem_append.1 h with h | h
    · exact fixC_short hW hH c h
    · exact hc c h
  have h2 : (allR (fixC W H ++ cs) ++ [69, 78, 68]).length = 80 * (6 + cs.length) + 3 := by
    rw [List.length_append, allR_len h1, List.length_append]
    rfl
  unfold hdL
  rw [padR_len (by rw [h2]; exact blk_le _), h2, blk_row]
/-- The end's row and what is behind, as the program fills it. -/
theorem hdL_row {W H : Nat} {cs : List Crd} (hW : W ≤ 256) (hH : H ≤ 256) (hc : ∀ c, c ∈ cs → shortC c) : hdL W H cs = padR (allR (fixC W H ++ cs) ++ ([69, 78, 68] ++ List.replicate 77 32)) (blk (80 * (6 + cs.length) + 80)) 32 := by
  have h1 : ∀ c, c ∈ fixC W H ++ cs → shortC c := fun c h => by
    rcases List.mem_append.1 h with h | h
    · exact fixC_short hW hH c h
    · exact hc c h
  have h2 : (allR (fixC W H ++ cs)).length = 80 * (6 + cs.length) := by
    rw [allR_len h1, List.length_append]
    rfl
  unfold hdL
  have h3 := blk_le (80 * (6 + cs.length) + 80)
  have hE : ∀ (A E : List UInt8) (q r : Nat), A ++ E ++ List.replicate (q + r) 32 = A ++ (E ++ List.replicate q 32) ++ List.replicate r 32 := fun A E q r => by
    rw [← List.replicate_append_replicate, List.append_assoc, List.append_assoc, List.append_assoc]
  have h4 : ∀ E : List UInt8, E.length = 3 → (allR (fixC W H ++ cs) ++ (E ++ List.replicate 77 32)).length = 80 * (6 + cs.length) + 80 := fun E hl => by
    rw [List.length_append, List.length_append, List.length_replicate, h2, hl]
  rw [List.length_append, h2, show ([69, 78, 68] : List UInt8).length = 3 from rfl, ← blk_row]
  unfold padR
  rw [h4 _ rfl, List.length_append, h2, show ([69, 78, 68] : List UInt8).length = 3 from rfl, ← hE]
  congr 2
  omega
/-! ### which cards are right -/
/-- Which bytes a name has. -/
def nmB (c : UInt8) : Prop := (65 ≤ c.toNat ∧ c.toNat ≤ 90) ∨ (48 ≤ c.toNat ∧ c.toNat ≤ 57) ∨ c = 45 ∨ c = 95
def nmOk (s : List UInt8) : Prop := 1 ≤ s.length ∧ s.length ≤ 8 ∧ ∀ c, c ∈ s → nmB c
/-- Names that are taken. -/
def ownN : List (List UInt8) := [[83, 73, 77, 80, 76, 69], [66, 73, 84, 80, 73, 88], [78, 65, 88, 73, 83], [78, 65, 88, 73, 83, 49], [78, 65, 88, 73, 83, 50], [66, 90, 69, 82, 79], [69, 78, 68]]
def vlOk (s : List UInt8) : Prop := s.length ≤ 70 ∧ (∀ h : s ≠ [], s.head h ≠ 32 ∧ s.getLast h ≠ 32) ∧ ∀ c, c ∈ s → 32 ≤ c.toNat ∧ c.toNat ≤ 126
/-- The name at a place is right. -/
def nmAt (cs : List Crd) (i : Nat) : Prop := nmOk (cs.getD i ([], [])).1 ∧ (cs.getD i ([], [])).1 ∉ ownN ∧ ∀ k, k < i → (cs.getD k ([], [])).1 ≠ (cs.getD i ([], [])).1
def nmsOk (cs : List Crd) : Prop := ∀ i, i < cs.length → nmAt cs i
def vlsOk (cs : List Crd) : Prop := ∀ i, i < cs.length → vlOk (cs.getD i ([], [])).2
def crdOk (cs : List Crd) : Prop := cs.length ≤ 100 ∧ nmsOk cs ∧ vlsOk cs
open Classical in
/-- A list's error: 0, or its number. -/
noncomputable def crdE (cs : List Crd) : Nat := if 100 < cs.length then 2 else if ¬ nmsOk cs then 10 else if ¬ vlsOk cs then 1 else 0
theorem crdOk_short {cs : List Crd} (h : crdOk cs) : ∀ c, c ∈ cs → shortC c := by
  intro c hc
  obtain ⟨i, hi, rfl⟩ := List.getElem_of_mem hc
  have h1 := h.2.1 i hi
  have h2 := h.2.2 i hi
  have e : cs.getD i ([], []) = cs[i] := by rw [List.getD_eq_getElem?_getD, List.getElem?_eq_getElem hi]; rfl
  unfold nmAt at h1
  rw [e] at h1 h2
  exact ⟨h1.1.2.1, h2.1⟩
end Go.Proofs.YtjcmpkkflboaoaaGreatDoor

namespace Go.Proofs.YtjcmpkkflboaoaaGreatDoor

/-- A piece of a list. -/
def sl (b : List UInt8) (i n : Nat) : List UInt8 := (b.drop i).take n
theorem sl_mid (A B C : List UInt8) {i n : Nat} (hi : A.length = i) (hn : B.length = n) : sl (A ++ B ++ C) i n = B := by
  subst hi hn
  unfold sl
  rw [List.append_assoc, List.drop_left, List.take_left]
theorem sl_len {b : List UInt8} {i n : Nat} (h : i + n ≤ b.length) : (sl b i n).length = n := by
  unfold sl
  rw [List.length_take, List.length_drop]
  omega
theorem sl_sl (b : List UInt8) {i n j m : Nat} (h : j + m ≤ n) : sl (sl b i n) j m = sl b (i + j) m := by
  unfold sl
  rw [List.drop_take, List.drop_drop, List.take_take, Nat.min_eq_left (by omega)]
theorem sl_get {b : List UInt8} {i n j : Nat} (h : j < n) : (sl b i n)[j]? = b[i + j]? := by
  unfold sl
  rw [List.getElem?_take_of_lt h, List.getElem?_drop]
theorem sl_inj {b c : List UInt8} {i j n : Nat} (h : sl b i n = sl c j n) {k : Nat} (hk : k < n) : b[i + k]? = c[j + k]? := by
  rw [← sl_get hk, h, sl_get hk]
/-! ### a row -/
theorem trimR_pad {l : List UInt8} {k : Nat} (h : ∀ hne : l ≠ [], l.getLast hne ≠ 32) : Lib.trimRightB (l ++ List.replicate k 32) 32 = l := by
  have e := Lib.trimRightB_take (l ++ List.replicate k 32) 32 l.length (by simp) (fun j b hj hb => by
    rw [List.getElem?_append_right hj] at hb
    have := List.mem_of_getElem? hb
    exact (List.mem_replicate.1 this).2) (fun b h0 hb => by
    have hne : l ≠ [] := fun e => by rw [e] at h0; exact absurd h0 (Nat.not_lt_zero _)
    rw [List.getElem?_append_left (by omega)] at hb
    have h2 := h hne
    rw [List.getLast_eq_getElem] at h2
    rw [List.getElem?_eq_getElem (by omega)] at hb
    rw [← Option.some.inj hb]
    exact h2)
  rw [e, List.take_left]
theorem rowC_parts {c : Crd} (h : shortC c) : sl (rowC c) 0 8 = c.1 ++ List.replicate (8 - c.1.length) 32 ∧ sl (rowC c) 8 2 = [61, 32] ∧ sl (rowC c) 10 70 = c.2 ++ List.replicate (70 - c.2.length) 32 := by
  have h8 := padR_len (c := 32) h.1
  have h2 := h.2
  have hl : (padR c.1 8 32 ++ [61, 32] ++ c.2).length = 10 + c.2.length := by
    rw [List.length_append, List.length_append, h8]
    rfl
  have e : rowC c = padR c.1 8 32 ++ [61, 32] ++ (c.2 ++ List.replicate (70 - c.2.length) 32) := by
    unfold rowC
    rw [padR, hl, ← List.append_assoc, show 80 - (10 + c.2.length) = 70 - c.2.length by omega]
  rw [e]
  refine ⟨?_, ?_, ?_⟩
  · rw [List.append_assoc]
    exact sl_mid [] _ _ rfl h8
  · exact sl_mid _ _ _ h8 rfl
  · have := sl_mid (padR c.1 8 32 ++ [61, 32]) (c.2 ++ List.replicate (70 - c.2.length) 32) [] (i := 10) (n := 70) (by rw [List.length_append, h8]; rfl) (by rw [List.length_append, List.length_replicate]; omega)
    rwa [List.append_nil] at this
/-- A card that can be read of its row. -/
structure Plain (c : Crd) : Prop where
  short : shortC c
  nmT : ∀ h : c.1 ≠ [], c.1.getLast h ≠ 32
  vlT : ∀ h : c.2 ≠ [], c.2.getLast h ≠ 32
  noEnd : c.1 ≠ [69, 78, 68]
  noSp : ∀ x, x ∈ c.1 → x ≠ 32
theorem Plain.row {c : Crd} (h : Plain c) : sl (rowC c) 8 2 = [61, 32] ∧ Lib.trimRightB (sl (rowC c) 0 8) 32 = c.1 ∧ Lib.trimRightB (sl (rowC c) 10 70) 32 = c.2 ∧ sl (rowC c) 0 4 ≠ [69, 78, 68, 32] := by
  obtain ⟨r1, r2, r3⟩ := rowC_parts h.short
  have hs := h.short.1
  refine ⟨r2, by rw [r1]; exact trimR_pad h.nmT, by rw [r3]; exact trimR_pad h.vlT, fun e => ?_⟩
  have e1 : sl (sl (rowC c) 0 8) 0 4 = [69, 78, 68, 32] := by rw [sl_sl _ (by decide)]; exact e
  rw [r1] at e1
  have g : ∀ k, k < 4 → (c.1 ++ List.replicate (8 - c.1.length) 32)[k]? = ([69, 78, 68, 32] : List UInt8)[k]? := fun k hk => by
    rw [← e1, sl_get hk, Nat.zero_add]
  have hlen : c.1.length = 3 := by
    by_cases g3 : c.1.length ≤ 2
    · exfalso
      have := g 2 (by decide)
      rw [List.getElem?_append_right (by omega), List.getElem?_replicate, if_pos (by omega)] at this
      revert this
      decide
    · by_cases g4 : 4 ≤ c.1.length
      · exfalso
        have := g 3 (by decide)
        rw [List.getElem?_append_left (by omega)] at this
        exact h.noSp 32 (List.mem_of_getElem? this) rfl
      · omega
  refine h.noEnd (List.ext_getElem? fun k => ?_)
  by_cases hk : k < 3
  · have := g k (by omega)
    rw [List.getElem?_append_left (by omega)] at this
    rw [this]
    have : k = 0 ∨ k = 1 ∨ k = 2 := by omega
    rcases this with rfl | rfl | rfl <;> rfl
  · rw [List.getElem?_eq_none (by omega), List.getElem?_eq_none (by show 3 ≤ k; omega)]
theorem nmB_no {c : UInt8} (h : nmB c) : c ≠ 32 := by
  rintro rfl
  rcases h with h | h | h | h
  · have := h.1; revert this; decide
  · have := h.1; revert this; decide
  · revert h; decide
  · revert h; decide
theorem crdOk_plain {cs : List Crd} (h : crdOk cs) : ∀ c, c ∈ cs → Plain c := by
  intro c hc
  have hs := crdOk_short h c hc
  obtain ⟨i, hi, rfl⟩ := List.getElem_of_mem hc
  have h1 := h.2.1 i hi
  have h2 := h.2.2 i hi
  have e : cs.getD i ([], []) = cs[i] := by rw [List.getD_eq_getElem?_getD, List.getElem?_eq_getElem hi]; rfl
  unfold nmAt at h1
  rw [e] at h1 h2
  refine ⟨hs, fun hne => ?_, fun hne => (h2.2.1 hne).2, fun e => ?_, fun x hx => nmB_no (h1.1.2.2 x hx)⟩
  · exact nmB_no (h1.1.2.2 _ (List.getLast_mem hne))
  · refine h1.2.1 ?_
    rw [e]
    unfold ownN
    simp
theorem dec_mem {n : Nat} : ∀ x, x ∈ Lib.decDigits n → 48 ≤ x.toNat ∧ x.toNat ≤ 57 := by
  induction n using Nat.strongRecOn with
  | ind n ih =>
    intro x hx
    by_cases c : n < 10
    · rw [Lib.decDigits_one c, List.mem_singleton] at hx
      subst hx
      have : ∀ k : Fin 10, 48 ≤ (UInt8.ofNat (48 + k.val)).toNat ∧ (UInt8.ofNat (48 + k.val)).toNat ≤ 57 := by decide
      exact this ⟨n, c⟩
    · rw [decDigits_big c, List.mem_append] at hx
      rcases hx with hx | hx
      · exact ih (n / 10) (by omega) x hx
      · rw [List.mem_singleton] at hx
        subst hx
        have : ∀ k : Fin 10, 48 ≤ (UInt8.ofNat (48 + k.val)).toNat ∧ (UInt8.ofNat (48 + k.val)).toNat ≤ 57 := by decide
        exact this ⟨n % 10, Nat.mod_lt _ (by decide)⟩
theorem fixC_plain {W H : Nat} (hW : W ≤ 256) (hH : H ≤ 256) : ∀ c, c ∈ fixC W H → Plain c := by
  intro c hc
  have hs := fixC_short hW hH c hc
  have hd : ∀ n : Nat, ∀ h : Lib.decDigits n ≠ [], (Lib.decDigits n).getLast h ≠ 32 := fun n h e => by
    have := (dec_mem _ (List.getLast_mem h)).1
    rw [e] at this
    revert this; decide
  unfold fixC at hc
  simp only [List.mem_cons, List.not_mem_nil, or_false] at hc
  rcases hc with rfl | rfl | rfl | rfl | rfl | rfl
  · exact ⟨hs, by decide, by decide, by decide, by decide⟩
  · exact ⟨hs, by decide, by decide, by decide, by decide⟩
  · exact ⟨hs, by decide, by decide, by decide, by decide⟩
  · exact ⟨hs, fun h => (show ∀ h : ([78, 65, 88, 73, 83, 49] : List UInt8) ≠ [], List.getLast _ h ≠ 32 by decide) h, hd W, (show ([78, 65, 88, 73, 83, 49] : List UInt8) ≠ [69, 78, 68] by decide), (show ∀ x, x ∈ ([78, 65, 88, 73, 83, 49] : List UInt8) → x ≠ 32 by decide)⟩
  · exact ⟨hs, fun h => (show ∀ h : ([78, 65, 88, 73, 83, 50] : List UInt8) ≠ [], List.getLast _ h ≠ 32 by decide) h, hd H, (show ([78, 65, 88, 73, 83, 50] : List UInt8) ≠ [69, 78, 68] by decide), (show ∀ x, x ∈ ([78, 65, 88, 73, 83, 50] : List UInt8) → x ≠ 32 by decide)⟩
  · exact ⟨hs, by decide, by decide, by decide, by decide⟩
theorem all_plain {W H : Nat} {cs : List Crd} (hW : W ≤ 256) (hH : H ≤ 256) (h : crdOk cs) : ∀ c, c ∈ fixC W H ++ cs → Plain c := fun c hc => by
  rcases List.mem_append.1 hc with hc | hc
  · exact fixC_plain hW hH c hc
  · exact crdOk_plain h c hc
/-! ### a file's parts -/
/-- A picture and cards that can be written. -/
structure FileV (W H : Nat) (f : Nat → Int) (cs : List Crd) : Prop where
  w1 : 1 ≤ W
  w2 : W ≤ 256
  h1 : 1 ≤ H
  h2 : H ≤ 256
  cnt : ∀ j, j < W * H → 0 ≤ f j ∧ f j ≤ 65535
  crd : crdOk cs
/-- Where the pixels begin. -/
def dat0 (m : Nat) : Nat := blk (80 * (6 + m) + 80)
theorem blk_blk (n : Nat) : n ≤ blk n := blk_le n
section
variable {W H : Nat} {f : Nat → Int} {cs : List Crd}
theorem FileV.shorts (v : FileV W H f cs) : ∀ c, c ∈ fixC W H ++ cs → shortC c := fun c hc => (all_plain v.w2 v.h2 v.crd c hc).short
theorem FileV.file_eq (v : FileV W H f cs) : ∃ r s : Nat, fileL W H f cs = allR (fixC W H ++ cs) ++ ([69, 78, 68] ++ List.replicate 77 32) ++ (List.replicate r 32 ++ datD W H f H ++ List.replicate s 0) := by
  refine ⟨blk (80 * (6 + cs.length) + 80) - (allR (fixC W H ++ cs) ++ ([69, 78, 68] ++ List.replicate 77 32)).length, blk (hdL W H cs ++ datD W H f H).length - (hdL W H cs ++ datD W H f H).length, ?_⟩
  unfold fileL
  rw [padR, hdL_row v.w2 v.h2 (crdOk_short v.crd), padR]
  simp only [List.append_assoc]
theorem FileV.allR_len (v : FileV W H f cs) : (allR (fixC W H ++ cs)).length = 80 * (6 + cs.length) := by
  rw [Go.Proofs.YtjcmpkkflboaoaaGreatDoor.allR_len v.shorts, List.length_append]
  rfl
theorem FileV.hd_len (v : FileV W H f cs) : (hdL W H cs).length = dat0 cs.length := hdL_len v.w2 v.h2 (crdOk_short v.crd)
theorem FileV.len (v : FileV W H f cs) : (fileL W H f cs).length = blk (dat0 cs.length + 2 * (H * W)) := by
  unfold fileL
  have e : (hdL W H cs ++ datD W H f H).length = dat0 cs.length + 2 * (H * W) := by rw [List.length_append, v.hd_len, datD_len]
  rw [padR_len (by rw [e]; exact blk_le _), e]
theorem FileV.len_le (v : FileV W H f cs) : dat0 cs.length + 2 * (H * W) ≤ (fileL W H f cs).length := by rw [v.len]; exact blk_le _
theorem dat0_le (m : Nat) : 80 * (6 + m) + 80 ≤ dat0 m := blk_le _
/-- The row of a card. -/
theorem FileV.row (v : FileV W H f cs) {p : Nat} (hp : p < 6 + cs.length) : sl (fileL W H f cs) (80 * p) 80 = rowC ((fixC W H ++ cs).getD p ([], [])) := by
  obtain ⟨r, s, e⟩ := v.file_eq
  have hl : (fixC W H ++ cs).length = 6 + cs.length := by rw [List.length_append]; rfl
  have hp' : p < (fixC W H ++ cs).length := by omega
  have eL : fixC W H ++ cs = (fixC W H ++ cs).take p ++ (fixC W H ++ cs)[p] :: (fixC W H ++ cs).drop (p + 1) := by
    rw [← List.drop_eq_getElem_cons hp', List.take_append_drop]
  have eR : allR (fixC W H ++ cs) = allR ((fixC W H ++ cs).take p) ++ (rowC (fixC W H ++ cs)[p] ++ allR ((fixC W H ++ cs).drop (p + 1))) := by
    conv => lhs; rw [eL]
    rw [allR_app]
    rfl
  have l1 : (allR ((fixC W H ++ cs).take p)).length = 80 * p := by
    rw [Go.Proofs.YtjcmpkkflboaoaaGreatDoor.allR_len (fun c hc => v.shorts c (List.mem_of_mem_take hc)), List.length_take]
    omega
  have l2 : (rowC (fixC W H ++ cs)[p]).length = 80 := rowC_len (v.shorts _ (List.getElem_mem hp'))
  rw [e, eR, List.getD_eq_getElem?_getD, List.getElem?_eq_getElem hp']
  show _ = rowC (fixC W H ++ cs)[p]
  rw [show allR ((fixC W H ++ cs).take p) ++ (rowC (fixC W H ++ cs)[p] ++ allR ((fixC W H ++ cs).drop (p + 1))) ++ ([69, 78, 68] ++ List.replicate 77 32) ++ (List.replicate r 32 ++ datD W H f H ++ List.replicate s 0) = allR ((fixC W H ++ cs).take p) ++ rowC (fixC W H ++ cs)[p] ++ (allR ((fixC W H ++ cs).drop (p + 1)) ++ ([69, 78, 68] ++ List.replicate 77 32) ++ (List.replicate r 32 ++ datD W H f H ++ List.replicate s 0)) by simp only [List.append_assoc]]
  exact sl_mid _ _ _ l1 l2
/-- The end's row. -/
theorem FileV.endRow (v : FileV W H f cs) : sl (fileL W H f cs) (80 * (6 + cs.length)) 80 = [69, 78, 68] ++ List.replicate 77 32 := by
  obtain ⟨r, s, e⟩ := v.file_eq
  rw [e]
  exact sl_mid _ _ _ v.allR_len (by simp)
end
end Go.Proofs.YtjcmpkkflboaoaaGreatDoor

namespace Go.Proofs.YtjcmpkkflboaoaaGreatDoor

/-! ### pixels -/
/-- A pixel's number in the file. -/
def pixN (v : Int) : Nat := ((v + 32768) % 65536).toNat
theorem pixN_lt (v : Int) : pixN v < 65536 := by unfold pixN; omega
theorem pixN_back {v : Int} (h : 0 ≤ v ∧ v ≤ 65535) : ((pixN v : Int) + 32768) % 65536 = v := by unfold pixN; omega
theorem b2_get (v : Int) : (b2 v)[0]? = some (UInt8.ofNat (pixN v / 256)) ∧ (b2 v)[1]? = some (UInt8.ofNat (pixN v % 256)) := ⟨rfl, rfl⟩
theorem b2_len (v : Int) : (b2 v).length = 2 := rfl
theorem rowD_get (W : Nat) (f : Nat → Int) (y : Nat) : ∀ n x, x < n → (rowD W f y n)[2 * x]? = some (UInt8.ofNat (pixN (f (y * W + x)) / 256)) ∧ (rowD W f y n)[2 * x + 1]? = some (UInt8.ofNat (pixN (f (y * W + x)) % 256))
  | n + 1, x, h => by
    rw [rowD]
    by_cases c : x < n
    · rw [List.getElem?_append_left (by rw [rowD_len]; omega), List.getElem?_append_left (by rw [rowD_len]; omega)]
      exact rowD_get W f y n x c
    · obtain rfl : x = n := by omega
      rw [List.getElem?_append_right (by rw [rowD_len]; omega), List.getElem?_append_right (by rw [rowD_len]; omega), rowD_len, show 2 * x - 2 * x = 0 by omega, show 2 * x + 1 - 2 * x = 1 by omega]
      exact b2_get _
theorem datD_get (W H : Nat) (f : Nat → Int) : ∀ m k j, k < m → j < 2 * W → (datD W H f m)[2 * (k * W) + j]? = (rowD W f (H - 1 - k) W)[j]?
  | m + 1, k, j, hk, hj => by
    rw [datD]
    by_cases c : k < m
    · have : (k + 1) * W ≤ m * W := Nat.mul_le_mul_right W c
      rw [Nat.add_mul, Nat.one_mul] at this
      rw [List.getElem?_append_left (by rw [datD_len]; omega)]
      exact datD_get W H f m k j c hj
    · obtain rfl : k = m := by omega
      rw [List.getElem?_append_right (by rw [datD_len]; omega), datD_len, Nat.add_sub_cancel_left]
section
variable {W H : Nat} {f : Nat → Int} {cs : List Crd}
theorem FileV.dat_at (v : FileV W H f cs) {j : Nat} (h : j < 2 * (H * W)) : (fileL W H f cs)[dat0 cs.length + j]? = (datD W H f H)[j]? := by
  unfold fileL
  rw [padR, List.getElem?_append_left (by rw [List.length_append, v.hd_len, datD_len]; omega), List.getElem?_append_right (by rw [v.hd_len]; omega), v.hd_len, Nat.add_sub_cancel_left]
theorem FileV.pix (v : FileV W H f cs) {k x : Nat} (hk : k < H) (hx : x < W) :
    (fileL W H f cs)[dat0 cs.length + 2 * (k * W + x)]? = some (UInt8.ofNat (pixN (f ((H - 1 - k) * W + x)) / 256)) ∧ (fileL W H f cs)[dat0 cs.length + 2 * (k * W + x) + 1]? = some (UInt8.ofNat (pixN (f ((H - 1 - k) * W + x)) % 256)) := by
  have h1 : (k + 1) * W ≤ H * W := Nat.mul_le_mul_right W hk
  rw [Nat.add_mul, Nat.one_mul] at h1
  rw [Nat.add_assoc (dat0 cs.length), v.dat_at (by omega), v.dat_at (by omega), show 2 * (k * W + x) + 1 = 2 * (k * W) + (2 * x + 1) by omega, show 2 * (k * W + x) = 2 * (k * W) + 2 * x by omega, datD_get W H f H k _ hk (by omega), datD_get W H f H k _ hk (by omega)]
  exact rowD_get W f _ W x hx
/-! ### cards -/
/-- The card in a row of bytes. -/
def cardAt (b : List UInt8) (p : Nat) : Crd := (Lib.trimRightB (sl b (80 * p) 8) 32, Lib.trimRightB (sl b (80 * p + 10) 70) 32)
theorem FileV.card (v : FileV W H f cs) {p : Nat} (hp : p < 6 + cs.length) :
    cardAt (fileL W H f cs) p = (fixC W H ++ cs).getD p ([], []) ∧ sl (fileL W H f cs) (80 * p + 8) 2 = [61, 32] ∧ sl (fileL W H f cs) (80 * p) 4 ≠ [69, 78, 68, 32] ∧ (cardAt (fileL W H f cs) p).1 ≠ [69, 78, 68] := by
  have hl : (fixC W H ++ cs).length = 6 + cs.length := by rw [List.length_append]; rfl
  have hr := v.row hp
  have hg : (fixC W H ++ cs).getD p ([], []) ∈ fixC W H ++ cs := by
    rw [List.getD_eq_getElem?_getD, List.getElem?_eq_getElem (by omega)]
    exact List.getElem_mem _
  have hP := all_plain v.w2 v.h2 v.crd _ hg
  generalize (fixC W H ++ cs).getD p ([], []) = c at *
  obtain ⟨r1, r2, r3, r4⟩ := hP.row
  rw [← hr] at r1 r2 r3 r4
  rw [sl_sl _ (by decide)] at r1 r2 r3 r4
  rw [Nat.add_zero] at r2 r4
  have e : cardAt (fileL W H f cs) p = c := by unfold cardAt; rw [r2, r3]
  exact ⟨e, r1, r4, by rw [e]; exact hP.noEnd⟩
theorem FileV.endAt (v : FileV W H f cs) : sl (fileL W H f cs) (80 * (6 + cs.length)) 4 = [69, 78, 68, 32] ∧ (cardAt (fileL W H f cs) (6 + cs.length)).1 = [69, 78, 68] := by
  have h := v.endRow
  refine ⟨?_, ?_⟩
  · have : sl (sl (fileL W H f cs) (80 * (6 + cs.length)) 80) 0 4 = [69, 78, 68, 32] := by rw [h]; decide
    rwa [sl_sl _ (by decide), Nat.add_zero] at this
  · have : sl (sl (fileL W H f cs) (80 * (6 + cs.length)) 80) 0 8 = [69, 78, 68] ++ List.replicate 5 32 := by rw [h]; decide
    rw [sl_sl _ (by decide), Nat.add_zero] at this
    unfold cardAt
    rw [this]
    exact trimR_pad (l := [69, 78, 68]) (by decide)
theorem FileV.fit (v : FileV W H f cs) {p : Nat} (hp : p ≤ 6 + cs.length) : 80 * p + 80 ≤ (fileL W H f cs).length := by
  have h1 := v.len_le
  have h2 := dat0_le cs.length
  omega
end
/-! ### one picture a file -/
/-- What digits tell. -/
def valD (l : List UInt8) : Nat := l.foldl (fun n c => n * 10 + (c.toNat - 48)) 0
theorem valD_one (l : List UInt8) (c : UInt8) : valD (l ++ [c]) = valD l * 10 + (c.toNat - 48) := by unfold valD; rw [List.foldl_append]; rfl
theorem valD_dec (n : Nat) : valD (Lib.decDigits n) = n := by
  have hd : ∀ k : Fin 10, (UInt8.ofNat (48 + k.val)).toNat - 48 = k.val := by decide
  induction n using Nat.strongRecOn with
  | ind n ih =>
    by_cases c : n < 10
    · rw [Lib.decDigits_one c]
      exact (Nat.zero_add _).trans (hd ⟨n, c⟩)
    · have h2 := hd ⟨n % 10, Nat.mod_lt _ (by decide)⟩
      rw [decDigits_big c, valD_one, ih (n / 10) (by omega), h2]
      show n / 10 * 10 + n % 10 = n
      omega
theorem dec_inj {m n : Nat} (h : Lib.decDigits m = Lib.decDigits n) : m = n := by rw [← valD_dec m, h, valD_dec]
theorem fixC_at (W H : Nat) (cs : List Crd) : ((fixC W H ++ cs).getD 3 ([], [])).2 = Lib.decDigits W ∧ ((fixC W H ++ cs).getD 4 ([], [])).2 = Lib.decDigits H ∧ ∀ i, (fixC W H ++ cs).getD (6 + i) ([], []) = cs.getD i ([], []) := by
  refine ⟨rfl, rfl, fun i => ?_⟩
  rw [List.getD_eq_getElem?_getD, List.getElem?_append_right (by show 6 ≤ 6 + i; omega), show (6 + i) - (fixC W H).length = i by show 6 + i - 6 = i; omega, List.getD_eq_getElem?_getD]
/-- Where the cards end. -/
theorem file_end {W H : Nat} {f : Nat → Int} {cs : List Crd} (v : FileV W H f cs) {q : Nat} (hE : sl (fileL W H f cs) (80 * q) 4 = [69, 78, 68, 32]) (hN : ∀ p, p < q → sl (fileL W H f cs) (80 * p) 4 ≠ [69, 78, 68, 32]) : q = 6 + cs.length := by
  rcases Nat.lt_trichotomy q (6 + cs.length) with h | h | h
  · exact absurd hE (v.card h).2.2.1
  · exact h
  · exact absurd v.endAt.1 (hN _ h)
theorem ofNat_inj256 {m n : Nat} (hm : m < 256) (hn : n < 256) (h : UInt8.ofNat m = UInt8.ofNat n) : m = n := by
  have := congrArg UInt8.toNat h
  rwa [UInt8.toNat_ofNat_of_lt' (by omega), UInt8.toNat_ofNat_of_lt' (by omega)] at this
theorem file_one {W H W' H' : Nat} {f f' : Nat → Int} {cs cs' : List Crd} (v : FileV W H f cs) (v' : FileV W' H' f' cs') (e : fileL W H f cs = fileL W' H' f' cs') :
    W = W' ∧ H = H' ∧ cs = cs' ∧ ∀ j, j < W * H → f j = f' j := by
  have hq : 6 + cs.length = 6 + cs'.length := file_end v' (by rw [← e]; exact v.endAt.1) (fun p hp => by rw [← e]; exact (v.card hp).2.2.1)
  have hlen : cs.length = cs'.length := by omega
  have hc : ∀ p, p < 6 + cs.length → (fixC W H ++ cs).getD p ([], []) = (fixC W' H' ++ cs').getD p ([], []) := fun p hp => by
    rw [← (v.card hp).1, e, (v'.card (by omega)).1]
  obtain ⟨a1, a2, a3⟩ := fixC_at W H cs
  obtain ⟨b1, b2, b3⟩ := fixC_at W' H' cs'
  have eW : W = W' := dec_inj (by rw [← a1, ← b1, hc 3 (by omega)])
  have eH : H = H' := dec_inj (by rw [← a2, ← b2, hc 4 (by omega)])
  subst eW eH
  have eC : cs = cs' := by
    refine List.ext_getElem hlen fun i h1 h2 => ?_
    have := hc (6 + i) (by omega)
    rw [a3, b3, List.getD_eq_getElem?_getD, List.getD_eq_getElem?_getD, List.getElem?_eq_getElem h1, List.getElem?_eq_getElem h2] at this
    exact this
  subst eC
  refine ⟨rfl, rfl, rfl, fun j hj => ?_⟩
  have hW := v.w1
  have hx : j % W < W := Nat.mod_lt _ (by omega)
  have hy : j / W < H := Nat.div_lt_of_lt_mul hj
  have hjj := Nat.div_add_mod' j W
  have hk : H - 1 - j / W < H := by have := v.h1; generalize j / W = y at *; omega
  have p1 := v.pix hk hx
  have p2 := v'.pix hk hx
  rw [e] at p1
  rw [show H - 1 - (H - 1 - j / W) = j / W by generalize j / W = y at *; omega, hjj] at p1 p2
  have q1 := ofNat_inj256 (Nat.div_lt_of_lt_mul (pixN_lt _)) (Nat.div_lt_of_lt_mul (pixN_lt _)) (Option.some.inj (p1.1.symm.trans p2.1))
  have q2 := ofNat_inj256 (Nat.mod_lt _ (by decide)) (Nat.mod_lt _ (by decide)) (Option.some.inj (p1.2.symm.trans p2.2))
  have c1 := v.cnt j hj
  have c2 := v'.cnt j hj
  have r1 := pixN_back c1
  have r2 := pixN_back c2
  have : pixN (f j) = pixN (f' j) := by omega
  rw [← r1, this, r2]
end Go.Proofs.YtjcmpkkflboaoaaGreatDoor

namespace Go.Proofs.YtjcmpkkflboaoaaGreatDoor

/-- Bytes that are a file. -/
def IsFile (b : List UInt8) : Prop := ∃ W H f cs, FileV W H f cs ∧ b = fileL W H f cs
/-- The cards of the first rows. -/
def crdsAt (b : List UInt8) (k : Nat) : List Crd := (List.range k).map (cardAt b)
theorem crdsAt_len (b : List UInt8) (k : Nat) : (crdsAt b k).length = k := by unfold crdsAt; rw [List.length_map, List.length_range]
theorem crdsAt_succ (b : List UInt8) (k : Nat) : crdsAt b (k + 1) = crdsAt b k ++ [cardAt b k] := by unfold crdsAt; rw [List.range_succ, List.map_append]; rfl
theorem crdsAt_get (b : List UInt8) {k i : Nat} (h : i < k) : (crdsAt b k).getD i ([], []) = cardAt b i := by
  unfold crdsAt
  rw [List.getD_eq_getElem?_getD, List.getElem?_map, List.getElem?_range h]
  rfl
theorem trimRB_le (l : List UInt8) : (Lib.trimRightB l 32).length ≤ l.length := by
  unfold Lib.trimRightB
  rw [List.length_reverse]
  exact Nat.le_trans (List.dropWhile_sublist _).length_le (by rw [List.length_reverse]; exact Nat.le_refl _)
theorem sl_le (b : List UInt8) (i n : Nat) : (sl b i n).length ≤ n := by unfold sl; rw [List.length_take]; exact Nat.min_le_left _ _
theorem cardAt_short (b : List UInt8) (p : Nat) : shortC (cardAt b p) := ⟨Nat.le_trans (trimRB_le _) (sl_le _ _ _), Nat.le_trans (trimRB_le _) (sl_le _ _ _)⟩
theorem crdsAt_short (b : List UInt8) (k : Nat) : ∀ c, c ∈ crdsAt b k → shortC c := by
  intro c hc
  unfold crdsAt at hc
  obtain ⟨p, _, rfl⟩ := List.mem_map.1 hc
  exact cardAt_short b p
/-- The number of a pixel's two bytes. -/
def pxN (b : List UInt8) (i : Nat) : Nat := (b.getD i 0).toNat * 256 + (b.getD (i + 1) 0).toNat
theorem pxN_lt (b : List UInt8) (i : Nat) : pxN b i < 65536 := by
  unfold pxN
  have h1 := (b.getD i 0).toNat_lt
  have h2 := (b.getD (i + 1) 0).toNat_lt
  omega
def pxV (b : List UInt8) (i : Nat) : Int := ((pxN b i : Int) + 32768) % 65536
theorem pxV_in (b : List UInt8) (i : Nat) : 0 ≤ pxV b i ∧ pxV b i ≤ 65535 := by unfold pxV; omega
/-- The pixel at a place of the picture. -/
def pxF (b : List UInt8) (d W H j : Nat) : Int := pxV b (d + 2 * ((H - 1 - j / W) * W + j % W))
theorem pxV_pix {b : List UInt8} {i : Nat} {v : Int} (hv : 0 ≤ v ∧ v ≤ 65535) (h1 : b[i]? = some (UInt8.ofNat (pixN v / 256))) (h2 : b[i + 1]? = some (UInt8.ofNat (pixN v % 256))) : pxV b i = v := by
  have h := pixN_lt v
  have hb := pixN_back hv
  unfold pxV pxN
  rw [List.getD_eq_getElem?_getD, List.getD_eq_getElem?_getD, h1, h2]
  show (((UInt8.ofNat (pixN v / 256)).toNat * 256 + (UInt8.ofNat (pixN v % 256)).toNat : Nat) + 32768 : Int) % 65536 = v
  rw [UInt8.toNat_ofNat_of_lt' (show pixN v / 256 < UInt8.size by have : UInt8.size = 256 := rfl; omega), UInt8.toNat_ofNat_of_lt' (show pixN v % 256 < UInt8.size from Nat.mod_lt _ (by decide)), show pixN v / 256 * 256 + pixN v % 256 = pixN v by omega]
  exact hb
theorem rowD_congr {W : Nat} {f g : Nat → Int} {y : Nat} : ∀ x, (∀ i, i < x → f (y * W + i) = g (y * W + i)) → rowD W f y x = rowD W g y x
  | 0, _ => rfl
  | x + 1, h => by rw [rowD, rowD, rowD_congr x (fun i hi => h i (by omega)), h x (by omega)]
theorem datD_congr {W H : Nat} {f g : Nat → Int} (hH : 1 ≤ H) (h : ∀ j, j < W * H → f j = g j) : ∀ k, k ≤ H → datD W H f k = datD W H g k
  | 0, _ => rfl
  | k + 1, hk => by
    rw [datD, datD, datD_congr hH h k (by omega), rowD_congr W (fun i hi => h _ (by
      have h1 : (H - 1 - k + 1) * W ≤ H * W := Nat.mul_le_mul_right W (by omega)
      rw [Nat.add_mul, Nat.one_mul] at h1
      rw [Nat.mul_comm W H]
      omega))]
theorem fileL_congr {W H : Nat} {f g : Nat → Int} {cs : List Crd} (hH : 1 ≤ H) (h : ∀ j, j < W * H → f j = g j) : fileL W H f cs = fileL W H g cs := by
  unfold fileL
  rw [datD_congr hH h H (Nat.le_refl _)]
section
variable {W H : Nat} {f : Nat → Int} {cs : List Crd}
theorem FileV.cards (v : FileV W H f cs) : crdsAt (fileL W H f cs) (6 + cs.length) = fixC W H ++ cs := by
  have hl : (fixC W H ++ cs).length = 6 + cs.length := by rw [List.length_append]; rfl
  refine List.ext_getElem (by rw [crdsAt_len, hl]) fun i h1 h2 => ?_
  have hi : i < 6 + cs.length := by rw [crdsAt_len] at h1; exact h1
  have e1 := crdsAt_get (fileL W H f cs) hi
  have e2 := (v.card hi).1
  rw [List.getD_eq_getElem?_getD, List.getElem?_eq_getElem h1] at e1
  rw [List.getD_eq_getElem?_getD, List.getElem?_eq_getElem h2] at e2
  exact e1.trans e2
theorem FileV.drop6 (v : FileV W H f cs) : (crdsAt (fileL W H f cs) (6 + cs.length)).drop 6 = cs := by
  rw [v.cards]
  rfl
theorem FileV.px (v : FileV W H f cs) : ∀ j, j < W * H → pxF (fileL W H f cs) (dat0 cs.length) W H j = f j := by
  intro j hj
  have hW := v.w1
  have hx : j % W < W := Nat.mod_lt _ (by omega)
  have hy : j / W < H := Nat.div_lt_of_lt_mul hj
  have hjj := Nat.div_add_mod' j W
  have hk : H - 1 - j / W < H := by have := v.h1; generalize j / W = y at *; omega
  have p := v.pix hk hx
  rw [show H - 1 - (H - 1 - j / W) = j / W by generalize j / W = y at *; omega, hjj] at p
  exact pxV_pix (v.cnt j hj) p.1 p.2
end
/-- The numbers that Read and PictureOf find, and the cards. -/
structure Got (b : List UInt8) (q W H : Nat) : Prop where
  q6 : 6 ≤ q
  endq : (sl b (80 * q) 4 = [69, 78, 68, 32] ∧ ∀ p, p < q → sl b (80 * p) 4 ≠ [69, 78, 68, 32]) ∨ ((cardAt b q).1 = [69, 78, 68] ∧ ∀ p, p < q → (cardAt b p).1 ≠ [69, 78, 68])
  wide : ∀ V, V ≤ 256 → (cardAt b 3).2 = Lib.decDigits V → W = V
  high : ∀ V, V ≤ 256 → (cardAt b 4).2 = Lib.decDigits V → H = V
theorem file_end2 {W H : Nat} {f : Nat → Int} {cs : List Crd} (v : FileV W H f cs) {q : Nat} (hE : (cardAt (fileL W H f cs) q).1 = [69, 78, 68]) (hN : ∀ p, p < q → (cardAt (fileL W H f cs) p).1 ≠ [69, 78, 68]) : q = 6 + cs.length := by
  rcases Nat.lt_trichotomy q (6 + cs.length) with h | h | h
  · exact absurd hE (v.card h).2.2.2
  · exact h
  · exact absurd v.endAt.2 (hN _ h)
theorem file_34 {W H : Nat} {f : Nat → Int} {cs : List Crd} (v : FileV W H f cs) : (cardAt (fileL W H f cs) 3).2 = Lib.decDigits W ∧ (cardAt (fileL W H f cs) 4).2 = Lib.decDigits H := by
  obtain ⟨a1, a2, _⟩ := fixC_at W H cs
  rw [(v.card (p := 3) (by omega)).1, (v.card (p := 4) (by omega)).1]
  exact ⟨a1, a2⟩
/-- What a file's bytes are read as. -/
theorem Got.file {b : List UInt8} {q W H : Nat} (g : Got b q W H) {W' H' : Nat} {f : Nat → Int} {cs : List Crd} (v : FileV W' H' f cs) (e : b = fileL W' H' f cs) :
    W' = W ∧ H' = H ∧ q = 6 + cs.length ∧ cs = (crdsAt b q).drop 6 ∧ dat0 (q - 6) + 2 * (H * W) ≤ b.length ∧ b = fileL W H (pxF b (dat0 (q - 6)) W H) cs := by
  subst e
  obtain ⟨a1, a2⟩ := file_34 v
  have eW := g.wide W' v.w2 a1
  have eH := g.high H' v.h2 a2
  subst eW eH
  have hq : q = 6 + cs.length := by
    rcases g.endq with ⟨h1, h2⟩ | ⟨h1, h2⟩
    · exact file_end v h1 h2
    · exact file_end2 v h1 h2
  have hm : q - 6 = cs.length := by omega
  refine ⟨rfl, rfl, hq, ?_, ?_, ?_⟩
  · rw [hq]; exact v.drop6.symm
  · rw [hm]; exact v.len_le
  · rw [hm]; exact fileL_congr v.h1 (fun j hj => (v.px j hj).symm)
theorem Got.noW {b : List UInt8} {q W H : Nat} (g : Got b q W H) (h : W < 1 ∨ H < 1 ∨ 256 < W ∨ 256 < H ∨ b.length < dat0 (q - 6) + 2 * (H * W)) : ¬ IsFile b := by
  rintro ⟨W', H', f, cs, v, e⟩
  obtain ⟨rfl, rfl, _, _, h5, _⟩ := g.file v e
  have := v.w1
  have := v.w2
  have := v.h1
  have := v.h2
  omega
theorem Got.noC {b : List UInt8} {q W H : Nat} (g : Got b q W H) (h : ¬ crdOk ((crdsAt b q).drop 6)) : ¬ IsFile b := by
  rintro ⟨W', H', f, cs, v, e⟩
  obtain ⟨rfl, rfl, _, h4, _, _⟩ := g.file v e
  exact h (by rw [← h4]; exact v.crd)
theorem Got.noB {b : List UInt8} {q W H : Nat} (g : Got b q W H) (h : fileL W H (pxF b (dat0 (q - 6)) W H) ((crdsAt b q).drop 6) ≠ b) : ¬ IsFile b := by
  rintro ⟨W', H', f, cs, v, e⟩
  obtain ⟨rfl, rfl, _, h4, _, h6⟩ := g.file v e
  rw [h4] at h6
  exact h h6.symm
/-- No end within the bytes, or few cards, or a row that is none, or too many: no file. -/
theorem noFile_short {b : List UInt8} {q : Nat} (hq : b.length < 80 * q + 80) (hN : ∀ p, p < q → sl b (80 * p) 4 ≠ [69, 78, 68, 32]) : ¬ IsFile b := by
  rintro ⟨W, H, f, cs, v, rfl⟩
  by_cases c : 6 + cs.length < q
  · exact hN _ c v.endAt.1
  · have := v.fit (p := q) (by omega)
    omega
theorem noFile_short2 {b : List UInt8} {q : Nat} (hq : b.length < 80 * q + 80) (hN : ∀ p, p < q → (cardAt b p).1 ≠ [69, 78, 68]) : ¬ IsFile b := by
  rintro ⟨W, H, f, cs, v, rfl⟩
  by_cases c : 6 + cs.length < q
  · exact hN _ c v.endAt.2
  · have := v.fit (p := q) (by omega)
    omega
theorem noFile_row {b : List UInt8} {q : Nat} (hq : ¬ sl b (80 * q) 4 = [69, 78, 68, 32]) (hr : sl b (80 * q + 8) 2 ≠ [61, 32]) (hN : ∀ p, p < q → sl b (80 * p) 4 ≠ [69, 78, 68, 32]) : ¬ IsFile b := by
  rintro ⟨W, H, f, cs, v, rfl⟩
  rcases Nat.lt_trichotomy q (6 + cs.length) with h | h | h
  · exact hr (v.card h).2.1
  · subst h; exact hq v.endAt.1
  · exact hN _ h v.endAt.1
theorem noFile_few {b : List UInt8} {q : Nat} (h6 : q < 6) (hE : sl b (80 * q) 4 = [69, 78, 68, 32]) : ¬ IsFile b := by
  rintro ⟨W, H, f, cs, v, rfl⟩
  exact (v.card (p := q) (by omega)).2.2.1 hE
theorem noFile_few2 {b : List UInt8} {q : Nat} (h6 : q < 6) (hE : (cardAt b q).1 = [69, 78, 68]) : ¬ IsFile b := by
  rintro ⟨W, H, f, cs, v, rfl⟩
  exact (v.card (p := q) (by omega)).2.2.2 hE
theorem noFile_many2 {b : List UInt8} {q : Nat} (h6 : 106 < q) (hN : ∀ p, p < q → (cardAt b p).1 ≠ [69, 78, 68]) : ¬ IsFile b := by
  rintro ⟨W, H, f, cs, v, rfl⟩
  have := v.crd.1
  exact hN _ (by omega) v.endAt.2
theorem dat0_prog (q : Nat) (h : 6 ≤ q) : (80 * q + 2880) / 2880 * 2880 = dat0 (q - 6) := by unfold dat0 blk; omega
theorem dat0_ref (q : Nat) (h : 6 ≤ q) : blk (80 * q + 80) = dat0 (q - 6) := by unfold dat0; congr 1; omega
/-- Filled up to whole blocks. -/
theorem fill_pad (l : List UInt8) (c : UInt8) : padR l (blk l.length) c = if l.length % 2880 = 0 then l else l ++ List.replicate (2880 - l.length % 2880) c := by
  have hb : blk l.length = if l.length % 2880 = 0 then l.length else l.length + (2880 - l.length % 2880) := by
    unfold blk
    split <;> omega
  rw [hb]
  split
  · exact padR_more (Nat.le_refl _)
  · unfold padR
    rw [Nat.add_sub_cancel_left]
end Go.Proofs.YtjcmpkkflboaoaaGreatDoor
