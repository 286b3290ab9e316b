/- frame.name, frame.value. -/
import Derived.Test.YtjcmpkkflboaoaaGreatDoorFilP
import Derived.Test.YtjcmpkkflboaoaaGreatDoorShelf
namespace Go.Proofs.YtjcmpkkflboaoaaGreatDoor
open Go.RowKit

theorem nmB_iff (c : UInt8) : nmB c ↔ (65 ≤ c.toNat ∧ c.toNat ≤ 90) ∨ (48 ≤ c.toNat ∧ c.toNat ≤ 57) ∨ c.toNat = 45 ∨ c.toNat = 95 := by
  have e1 : c = 45 ↔ c.toNat = 45 := UInt8.toNat_inj.symm
  have e2 : c = 95 ↔ c.toNat = 95 := UInt8.toNat_inj.symm
  unfold nmB
  rw [e1, e2]
theorem ba_get {s : ByteArray} {k : Nat} (h : k < s.size) : s.data.toList[k]? = some s[k] := by
  rw [Array.getElem?_toList]
  exact Array.getElem?_eq_getElem h
theorem ba_len (s : ByteArray) : s.data.toList.length = s.size := (Lib.size_eq s).symm
/-- All of a string's bytes meet a condition. -/
theorem ba_all {s : ByteArray} {p : UInt8 → Prop} (h : ∀ k (hk : k < s.size), p s[k]) : ∀ c, c ∈ s.data.toList → p c := by
  intro c hc
  obtain ⟨k, hk, rfl⟩ := List.getElem_of_mem hc
  rw [ba_len] at hk
  have := ba_get hk
  rw [List.getElem?_eq_getElem (by rw [ba_len]; exact hk)] at this
  rw [Option.some.inj this]
  exact h k hk
theorem ba_mem {s : ByteArray} {k : Nat} (h : k < s.size) : s[k] ∈ s.data.toList := List.mem_of_getElem? (ba_get h)
/-- A bool is handed back: whether a condition holds. -/
def BoolIs (P : Prop) (e : Ending) : Prop := ∃ b : Bool, e = .returned (.bool b) ∧ (b = true ↔ P)
theorem BoolIs.t {P : Prop} (h : P) : BoolIs P (.returned (.bool true)) := ⟨true, rfl, fun _ => h, fun _ => rfl⟩
theorem BoolIs.f {P : Prop} (h : ¬ P) : BoolIs P (.returned (.bool false)) := ⟨false, rfl, fun e => (by cases e), fun p => absurd p h⟩
set_option maxRecDepth 20000 in
set_option maxHeartbeats 4000000 in
theorem name_any (s : ByteArray) (hs : s.size ≤ 9223372036854775807) (w : World) :
    Calls Tryz.prog 19 #[.string s] w fun e w' => BoolIs (nmOk s.data.toList) e ∧ w = w' := by
  have hl := ba_len s
  by_cases c1 : s.size < 1
  · have HN : Hid (¬ nmOk s.data.toList) := Lib.hid (fun h => by have := h.1; omega)
    clear hl
    go_enter Tryz.func19, Tryz.ntmps19
    go_wp2
    go_ret
    exact ⟨BoolIs.f HN.out, rfl⟩
  by_cases c2 : 8 < s.size
  · have HN : Hid (¬ nmOk s.data.toList) := Lib.hid (fun h => by have := h.2.1; omega)
    clear hl
    go_enter Tryz.func19, Tryz.ntmps19
    go_wp2
    go_ret
    exact ⟨BoolIs.f HN.out, rfl⟩
  have HLn := Lib.hid hl
  clear hl
  go_enter Tryz.func19, Tryz.ntmps19
  go_wp2
  go_loopw [15] (fun i wr => ∃ k : Nat, k ≤ s.size ∧ i = .int .i64 k ∧ Hid (∀ j (hj : j < s.size), j < k → nmB s[j]) ∧ w = wr) (fun i _ => s.size - (intOf i).toNat)
  case atStart => exact ⟨0, Nat.zero_le _, rfl, Lib.hid (fun j _ hj => absurd hj (Nat.not_lt_zero _)), rfl⟩
  case round =>
    obtain ⟨k, hk, rfl, HP, rfl⟩ := hrel
    by_cases hlt : k < s.size
    · have hiff := nmB_iff s[k]
      have hlt8 := s[k].toNat_lt
      by_cases g : nmB s[k]
      · have HP2 : Hid (∀ j (hj : j < s.size), j < k + 1 → nmB s[j]) := Lib.hid (fun j hj hjk => by
          by_cases e : j = k
          · subst e; exact g
          · exact HP.out j hj (by omega))
        have g2 := hiff.1 g
        clear hiff g HP
        rcases g2 with g | g | g | g
        all_goals
          go_wp2
          go_roundw
          case rel => exact ⟨k + 1, by omega, by go_num, HP2, by simp⟩
          case measure => simp [intOf]; omega
      · have HN : Hid (¬ nmOk s.data.toList) := Lib.hid (fun h => g (h.2.2 _ (ba_mem hlt)))
        have g2 : ¬ ((65 ≤ s[k].toNat ∧ s[k].toNat ≤ 90) ∨ (48 ≤ s[k].toNat ∧ s[k].toNat ≤ 57) ∨ s[k].toNat = 45 ∨ s[k].toNat = 95) := fun h => g (hiff.2 h)
        have g3 : s[k].toNat < 65 ∨ 90 < s[k].toNat := by omega
        have g4 : s[k].toNat < 48 ∨ 57 < s[k].toNat := by omega
        have g5 : ¬ s[k].toNat = 45 := by omega
        have g6 : ¬ s[k].toNat = 95 := by omega
        have b5 : ((s[k].toNat : Int) != 45) = true := by simp; omega
        have b6 : ((s[k].toNat : Int) != 95) = true := by simp; omega
        clear hiff g g2 HP
        rcases g3 with g3 | g3 <;> rcases g4 with g4 | g4
        all_goals first
          | (exfalso; omega)
          | (go_wp2
             go_ret
             exact ⟨BoolIs.f HN.out, rfl⟩)
    · have HO : Hid (nmOk s.data.toList) := Lib.hid ⟨by rw [HLn.out]; omega, by rw [HLn.out]; omega, ba_all (fun j hj => HP.out j hj (by omega))⟩
      go_wp2
      go_ret
      exact ⟨BoolIs.t HO.out, rfl⟩
/-! ### value -/
theorem dropW_head {l : List UInt8} (h : ∀ hne : l ≠ [], l.head hne ≠ 32) : l.dropWhile (· == 32) = l := by
  cases l with
  | nil => rfl
  | cons a l =>
    have := h (List.cons_ne_nil _ _)
    rw [List.head_cons] at this
    rw [List.dropWhile_cons, if_neg (by simpa using this)]
theorem dropW_len (l : List UInt8) : (l.dropWhile (· == 32)).length ≤ l.length := (List.dropWhile_sublist _).length_le
theorem dropW_same {l : List UInt8} (h : l.dropWhile (· == 32) = l) : ∀ hne : l ≠ [], l.head hne ≠ 32 := by
  intro hne e
  cases l with
  | nil => exact hne rfl
  | cons a l =>
    rw [List.head_cons] at e
    subst e
    rw [List.dropWhile_cons, if_pos (by decide)] at h
    have := congrArg List.length h
    have := dropW_len l
    rw [List.length_cons] at *
    omega
/-- Trim leaves a text as it is: no blank at its ends. -/
theorem trimB_same (l : List UInt8) : Lib.trimB l 32 = l ↔ ∀ h : l ≠ [], l.head h ≠ 32 ∧ l.getLast h ≠ 32 := by
  have hr : ∀ hne : l ≠ [], l.reverse.head (by simpa using hne) = l.getLast hne := fun hne => List.head_reverse _
  constructor
  · intro h hne
    have e1 : (Lib.trimRightB l 32).length ≤ l.length := by
      unfold Lib.trimRightB
      rw [List.length_reverse]
      have := dropW_len l.reverse
      rw [List.length_reverse] at this
      exact this
    have e2 : (Lib.trimB l 32).length ≤ (Lib.trimRightB l 32).length := by
      unfold Lib.trimB Lib.trimLeftB
      exact dropW_len _
    have e3 : (Lib.trimRightB l 32).length = l.length := by rw [h] at e2; omega
    have e4 : l.reverse.dropWhile (· == 32) = l.reverse := by
      have hs := List.dropWhile_suffix (l := l.reverse) (p := (· == 32))
      refine hs.eq_of_length ?_
      unfold Lib.trimRightB at e3
      rw [List.length_reverse] at e3
      rw [e3, List.length_reverse]
    have e5 : Lib.trimRightB l 32 = l := by unfold Lib.trimRightB; rw [e4, List.reverse_reverse]
    unfold Lib.trimB at h
    rw [e5] at h
    refine ⟨dropW_same h hne, ?_⟩
    rw [← hr hne]
    exact dropW_same e4 (by simpa using hne)
  · intro h
    have e4 : l.reverse.dropWhile (· == 32) = l.reverse := dropW_head (fun hne => by
      have hne2 : l ≠ [] := by simpa using hne
      rw [hr hne2]
      exact (h hne2).2)
    have e5 : Lib.trimRightB l 32 = l := by unfold Lib.trimRightB; rw [e4, List.reverse_reverse]
    unfold Lib.trimB
    rw [e5]
    exact dropW_head (fun hne => (h hne).1)
theorem bs_of (s : ByteArray) : bs s.data.toList = s := by simp [bs]
set_option maxRecDepth 20000 in
set_option maxHeartbeats 4000000 in
theorem value_any (s : ByteArray) (hs : s.size ≤ 9223372036854775807) (w : World) :
    Calls Tryz.prog 22 #[.string s] w fun e w' => BoolIs (vlOk s.data.toList) e ∧ Below w.heap.size w w' := by
  have hl := ba_len s
  have HTr := Lib.hid (fun w' => Tryz.strings_Trim_one s 32 (by decide) w' hs)
  by_cases c1 : 70 < s.size
  · have HN : Hid (¬ vlOk s.data.toList) := Lib.hid (fun h => by have := h.1; omega)
    clear hl HTr
    go_enter Tryz.func22, Tryz.ntmps22
    go_wp2
    go_ret
    exact ⟨BoolIs.f HN.out, Below.refl _ _⟩
  have HLn := Lib.hid hl
  by_cases ct : Lib.trimB s.data.toList 32 = s.data.toList
  · have HT := Lib.hid ((trimB_same _).1 ct)
    have eT : (⟨(Lib.trimB s.data.toList 32).toArray⟩ : ByteArray) = s := by rw [ct]
    rw [eT] at HTr
    clear hl ct eT
    go_enter Tryz.func22, Tryz.ntmps22
    go_wp2_with fail
    refine (HTr.out _).mono ?_; rintro e wa ⟨rfl, hwa⟩
    have HB : Hid (Below w.heap.size w wa) := Lib.hid (by rcases hwa with rfl | rfl; exact Below.refl _ _; exact (Below.refl _ _).drew)
    clear hwa HTr
    go_wp2
    go_loopw [15] (fun i wr => ∃ k : Nat, k ≤ s.size ∧ i = .int .i64 k ∧ Hid (∀ j (hj : j < s.size), j < k → 32 ≤ s[j].toNat ∧ s[j].toNat ≤ 126) ∧ wa = wr) (fun i _ => s.size - (intOf i).toNat)
    case atStart => exact ⟨0, Nat.zero_le _, rfl, Lib.hid (fun j _ hj => absurd hj (Nat.not_lt_zero _)), rfl⟩
    case round =>
      obtain ⟨k, hk, rfl, HP, rfl⟩ := hrel
      by_cases hlt : k < s.size
      · have hlt8 := s[k].toNat_lt
        by_cases g : 32 ≤ s[k].toNat ∧ s[k].toNat ≤ 126
        · have HP2 : Hid (∀ j (hj : j < s.size), j < k + 1 → 32 ≤ s[j].toNat ∧ s[j].toNat ≤ 126) := Lib.hid (fun j hj hjk => by
            by_cases e : j = k
            · subst e; exact g
            · exact HP.out j hj (by omega))
          clear HP
          go_wp2
          go_roundw
          case rel => exact ⟨k + 1, by omega, by go_num, HP2, by simp⟩
          case measure => simp [intOf]; omega
        · have HN : Hid (¬ vlOk s.data.toList) := Lib.hid (fun h => g (h.2.2 _ (ba_mem hlt)))
          have g3 : s[k].toNat < 32 ∨ 126 < s[k].toNat := by omega
          clear g HP
          rcases g3 with g3 | g3
          all_goals
            go_wp2
            go_ret
            exact ⟨BoolIs.f HN.out, HB.out⟩
      · have HO : Hid (vlOk s.data.toList) := Lib.hid ⟨by rw [HLn.out]; omega, HT.out, ba_all (fun j hj => HP.out j hj (by omega))⟩
        go_wp2
        go_ret
        exact ⟨BoolIs.t HO.out, HB.out⟩
  · have HN : Hid (¬ vlOk s.data.toList) := Lib.hid (fun h => ct ((trimB_same _).2 h.2.1))
    have hne : ((⟨(Lib.trimB s.data.toList 32).toArray⟩ : ByteArray).toList == s.toList) = false := by
      rw [Lib.toList_data, Lib.toList_data, beq_eq_false_iff_ne]
      exact ct
    generalize (⟨(Lib.trimB s.data.toList 32).toArray⟩ : ByteArray) = t at *
    clear hl ct
    go_enter Tryz.func22, Tryz.ntmps22
    go_wp2_with fail
    refine (HTr.out _).mono ?_; rintro e wa ⟨rfl, hwa⟩
    have HB : Hid (Below w.heap.size w wa) := Lib.hid (by rcases hwa with rfl | rfl; exact Below.refl _ _; exact (Below.refl _ _).drew)
    clear hwa HTr
    go_wp2
    go_ret
    exact ⟨BoolIs.f HN.out, HB.out⟩
end Go.Proofs.YtjcmpkkflboaoaaGreatDoor
