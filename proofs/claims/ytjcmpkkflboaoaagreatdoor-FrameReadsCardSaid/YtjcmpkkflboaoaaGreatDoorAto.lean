/- strconv.Atoi, bytes.Equal, as frame.Read needs them. -/
import Derived.Test.YtjcmpkkflboaoaaGreatDoorFilP
import Derived.Test.YtjcmpkkflboaoaaGreatDoorCrd
import Derived.Test.YtjcmpkkflboaoaaGreatDoorShelf
import Derived.Lib.AtoiAllCases
import Derived.Test.YtjcmpkkflboaoaaGreatDoorByt
import Derived.Lib.SlFresh
namespace Go.Proofs.YtjcmpkkflboaoaaGreatDoor
open Go.RowKit

theorem pu10_val : ∀ (l : List UInt8) (n : Nat), (∀ c, c ∈ l → 48 ≤ c.toNat ∧ c.toNat ≤ 57) → l.foldl (fun n c => n * 10 + (c.toNat - 48)) n ≤ 100000 → Lib.parseUint10 n l = .ok (l.foldl (fun n c => n * 10 + (c.toNat - 48)) n)
  | [], n, _, _ => rfl
  | c :: l, n, hd, hv => by
    have hmono : ∀ (l : List UInt8) (n : Nat), n ≤ l.foldl (fun n c => n * 10 + (c.toNat - 48)) n := by
      intro l
      induction l with
      | nil => intro n; exact Nat.le_refl _
      | cons c l ih => intro n; rw [List.foldl_cons]; exact Nat.le_trans (by omega) (ih _)
    rw [List.foldl_cons] at hv ⊢
    have h1 := hmono l (n * 10 + (c.toNat - 48))
    have h2 := hd c (List.mem_cons_self ..)
    rw [Lib.parseUint10, if_pos h2, if_neg (by omega), if_neg (by omega)]
    exact pu10_val l _ (fun d h => hd d (List.mem_cons_of_mem _ h)) hv
theorem atoi_dec {V : Nat} (h : V ≤ 256) : Lib.atoiAll (Lib.decDigits V) = .ok (V : Int) := by
  have hm := dec_mem (n := V)
  have hv : (Lib.decDigits V).foldl (fun n c => n * 10 + (c.toNat - 48)) 0 = V := valD_dec V
  have hp := pu10_val (Lib.decDigits V) 0 hm (by rw [hv]; omega)
  rw [hv] at hp
  have hne : Lib.decDigits V ≠ [] := fun e => by
    have := Lib.decDigits_length V
    rw [e] at this
    have h2 := Lib.nDigits_pos V
    simp at this
    omega
  obtain ⟨c, r, e⟩ : ∃ c r, Lib.decDigits V = c :: r := by
    cases h : Lib.decDigits V with
    | nil => exact absurd h hne
    | cons c r => exact ⟨c, r, rfl⟩
  have hc := hm c (by rw [e]; exact List.mem_cons_self ..)
  rw [e] at hp ⊢
  have h1 : ¬ (c.toNat = 43 ∨ c.toNat = 45) := by omega
  have h2 : ¬ c.toNat = 45 := by omega
  unfold Lib.atoiAll
  simp only [if_neg h1]
  rw [Lib.parseMag, if_neg (by simp), hp]
  simp only [h2, not_false_eq_true, true_and, false_and, if_false]
  rw [if_neg (by omega)]
/-- The library's two errors lie in their variables. -/
def Nums (w : World) : Prop := (∃ a, w.cell? ⟨12, 0, none⟩ = some (.iface 170 a)) ∧ ∃ a, w.cell? ⟨13, 0, none⟩ = some (.iface 170 a)
theorem Nums.below {w w' : World} (h : Nums w) (hb : Below w.heap.size w w') : Nums w' := by
  obtain ⟨⟨a, h1⟩, b, h2⟩ := h
  refine ⟨⟨a, ?_⟩, b, ?_⟩
  · rw [hb.cell (p := ⟨12, 0, none⟩) (cell_lt h1)]; exact h1
  · rw [hb.cell (p := ⟨13, 0, none⟩) (cell_lt h2)]; exact h2
theorem atoi_any (l : List UInt8) (hl : l.length ≤ 1000000) (w : World) (hN : Nums w) :
    Calls Tryz.prog 34 #[.string (bs l)] w fun e w' => ∃ (r : Int) (ev : Value), e = .returned (.tuple #[.int .i64 r, ev]) ∧ Hid (In64 r ∧ ∀ V, V ≤ 256 → l = Lib.decDigits V → r = V) ∧ Below w.heap.size w w' := by
  have hs := bs_size l
  have hd : (bs l).data.toList = l := by simp [bs]
  obtain ⟨⟨a, h1⟩, b, h2⟩ := hN
  cases h : Lib.atoiAll l
  · rename_i v
    refine (Tryz.strconv_Atoi_ok (bs l) (by omega) v (by rw [hd]; exact h) w).mono ?_
    rintro e w' ⟨rfl, hw⟩
    refine ⟨v, .nilIface, rfl, Lib.hid ⟨Lib.atoiAll_bounds h, fun V hV e => ?_⟩, ?_⟩
    · rw [e, atoi_dec hV] at h
      injection h with h
      exact h.symm
    · rcases hw with rfl | ⟨t, rfl⟩
      · exact Below.refl _ _
      · exact Lib.bytesWorld_below w 5 t
  · have hS : Calls Tryz.prog 34 #[.string (bs l)] w fun e w' => ∃ N, e = .returned (.tuple #[.int .i64 (0), .iface 133 (.pointer (some ⟨N, 0, none⟩))]) ∧ w.heap.size ≤ N ∧ w'.heap[N]? = some (.cells #[.string ⟨#[65, 116, 111, 105]⟩, .string (bs l), _] 161 (0, 0)) ∧ Below w.heap.size w w' := Any.strconv_Atoi_syntax Tryz.laysC172 (bs l) (by omega) (by rw [hd]; exact h) _ w h1 (Or.inr ⟨_, _, rfl⟩)
    refine hS.mono ?_
    rintro e w' ⟨N, rfl, _, _, hb⟩
    refine ⟨0, _, rfl, Lib.hid ⟨⟨by decide, by decide⟩, fun V hV e => ?_⟩, hb⟩
    rw [e, atoi_dec hV] at h
    cases h
  · refine (Tryz.strconv_Atoi_range (bs l) (by omega) (by rw [hd]; exact h) _ w h2 (Or.inr ⟨_, _, rfl⟩)).mono ?_
    rintro e w' ⟨N, rfl, _, _, hb⟩
    refine ⟨Lib.atoiSat (bs l).data.toList, _, rfl, Lib.hid ⟨Lib.atoiSat_bounds _, fun V hV e => ?_⟩, hb⟩
    rw [e, atoi_dec hV] at h
    cases h
/-- The bytes that a slice shows. -/
def BSl (w : World) (a : Option Addr) (l : List UInt8) : Prop := l = [] ∨ ∃ b o, a = some ⟨b, o, none⟩ ∧ BIn w b o l
theorem BSl.below {w w' : World} {a : Option Addr} {l : List UInt8} (h : BSl w a l) (hb : Below w.heap.size w w') : BSl w' a l := by
  rcases h with h | ⟨b, o, e, h⟩
  · exact Or.inl h
  · exact Or.inr ⟨b, o, e, h.below hb⟩
theorem GB.bsl {B : Nat} {w wr : World} {a : Option Addr} {n cap : Nat} {l : List UInt8} (h : GB B w (.slice a n cap) l wr) : BSl wr a l := by
  rcases h.1.2 with ⟨e, h0⟩ | ⟨g, cap', cur, e, _⟩
  · exact Or.inl (List.eq_nil_of_length_eq_zero h0)
  · obtain ⟨rfl, rfl, rfl⟩ : a = some ⟨g, 0, none⟩ ∧ n = l.length ∧ cap = cap' := by cases e; exact ⟨rfl, rfl, rfl⟩
    refine Or.inr ⟨g, 0, rfl, fun i x hx => ?_⟩
    have hi := (List.getElem?_eq_some_iff.1 hx).1
    rw [Nat.zero_add, h.1.cellAt i (by omega)]
    unfold encB
    rw [List.getElem?_map, hx]
    rfl
theorem BSl.bytes {w : World} {a : Option Addr} {l : List UInt8} (h : BSl w a l) : Lib.BytesIn w a l.length (Lib.numsL l) := by
  intro hn
  rcases h with rfl | ⟨b, o, e, h⟩
  · exact absurd hn (Nat.lt_irrefl 0)
  · refine ⟨b, o, e, fun i hi => ?_⟩
    rw [h i l[i] (List.getElem?_eq_getElem hi)]
    unfold Lib.numsL
    rw [List.getD_eq_getElem?_getD, List.getElem?_map, List.getElem?_eq_getElem hi]
    rfl
theorem equal_any (l m : List UInt8) (a a' : Option Addr) (cap cap' : Nat) (w : World) (h : BSl w a l) (h' : BSl w a' m) :
    Calls Tryz.prog 35 #[.slice a l.length cap, .slice a' m.length cap'] w fun e w' => e = .returned (.bool (l == m)) ∧ w' = w := by
  have := Tryz.bytes_Equal_all a a' l.length cap m.length cap' (Lib.numsL l) (Lib.numsL m) w (Lib.numsL_length l) (Lib.numsL_length m) h.bytes h'.bytes
  rw [Lib.bytesOf_numsL, Lib.bytesOf_numsL] at this
  exact this
end Go.Proofs.YtjcmpkkflboaoaaGreatDoor
