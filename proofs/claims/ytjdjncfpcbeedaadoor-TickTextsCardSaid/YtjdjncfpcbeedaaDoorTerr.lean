/- The reference on tables: what TableError and AheadOn compute. -/
import Derived.Test.YtjdjncfpcbeedaaDoorTickP
namespace Go.Proofs.YtjdjncfpcbeedaaDoor
open Go.RowKit

theorem sq_one {s : Int} (h1 : s ≠ 1) (h2 : s ≠ -1) : s * s ≠ 1 := by
  intro h
  have e : s.natAbs * s.natAbs = 1 := by rw [← Int.natAbs_mul, h]; rfl
  rcases Nat.lt_or_ge s.natAbs 2 with c | c
  · obtain h0 | h0 : s.natAbs = 0 ∨ s.natAbs = 1 := by omega
    · rw [h0] at e; omega
    · omega
  · have := Nat.mul_le_mul c c
    omega
theorem sq_bd {s : Int} (h : -2000 ≤ s ∧ s ≤ 2000) : 0 ≤ s * s ∧ s * s ≤ 4000000 := by
  have e := Int.natAbs_mul_self (a := s)
  have : s.natAbs * s.natAbs ≤ 2000 * 2000 := Nat.mul_le_mul (by omega) (by omega)
  omega

theorem terr_long (a : Option Addr) (len cap : Nat) (hl : 60 < len) (w : World) :
    Calls Tryd.prog 57 #[.slice a len cap] w fun e w' => e = .returned (.int .i64 2) ∧ w = w' := by
  go_enter Tryd.func57, Tryd.ntmps57
  go_wp2
  go_ret
  exact ⟨rfl, rfl⟩
theorem terr_zero (a : Option Addr) (cap : Nat) (w : World) :
    Calls Tryd.prog 57 #[.slice a 0 cap] w fun e w' => e = .returned (.int .i64 0) ∧ w = w' := by
  go_enter Tryd.func57, Tryd.ntmps57
  go_wp2
  refine wp_loop_rounds 1 ?_
  rw [rounds_succ]
  go_wp2
  go_ret
  exact ⟨rfl, rfl⟩

/-- What TableError answers of a short table. -/
def TerrR (D A : Nat → Int) (len : Nat) (v : Int) : Prop := (¬ rowsOk D A len ∧ v = 4) ∨ (rowsOk D A len ∧ v = 0)

set_option maxHeartbeats 4000000 in
theorem terr_short (D A : Nat → Int) (b off len cap : Nat) (hl : len ≤ 60) (w : World)
    (hc : ∀ j, j < len → w.cell? ⟨b, off + j * 2, none⟩ = some (.int .i64 (D j)) ∧ w.cell? ⟨b, off + j * 2 + 1, none⟩ = some (.int .i64 (A j)) ∧ In64 (D j) ∧ In64 (A j)) :
    Calls Tryd.prog 57 #[.slice (some ⟨b, off, none⟩) len cap] w fun e w' => (∃ v, e = .returned (.int .i64 v) ∧ TerrR D A len v) ∧ w = w' := by
  have HC := Lib.hid hc
  clear hc
  go_enter Tryd.func57, Tryd.ntmps57
  go_wp2
  go_loopw [3] (fun i wr => ∃ k : Nat, k ≤ len ∧ i = .int .i64 k ∧ Hid (rowsOk D A k) ∧ w = wr) (fun i _ => len - (intOf i).toNat)
  case atStart => exact ⟨0, Nat.zero_le _, rfl, fun i hi => absurd hi (Nat.not_lt_zero _), rfl⟩
  case round =>
    obtain ⟨k, hk, rfl, hok, rfl⟩ := hrel
    by_cases hlt : k < len
    · obtain ⟨c1, c2, h3, h4⟩ := HC.out k hlt
      by_cases hr : -4000000 ≤ D k ∧ D k ≤ 4000000 ∧ -1000 ≤ A k ∧ A k ≤ 1000
      · obtain ⟨r1, r2, r3, r4⟩ := hr
        by_cases c0 : k = 0
        · have hz : rowOk D A k := ⟨r1, r2, r3, r4, fun h => absurd h (by omega)⟩
          have HZ := Lib.hid hz
          have C0 := Lib.hid c0
          have hk0 : k ≤ 0 := by omega
          clear hz c0
          go_wp2
          go_roundw
          case rel =>
            refine ⟨k + 1, by omega, by go_num, ?_, by simp⟩
            intro i hi
            have := C0.out
            obtain rfl : i = k := by omega
            exact HZ.out
          case measure => simp [intOf]; omega
        · obtain ⟨j, rfl⟩ : ∃ j, k = j + 1 := ⟨k - 1, by omega⟩
          clear c0
          obtain ⟨p1, p2, q3, q4⟩ := HC.out j (by omega)
          obtain ⟨j1, j2, j3, j4, _⟩ := hok.out j (by omega)
          have no : ¬ (D j + 2 ≤ D (j + 1) ∧ (A (j + 1) - A j = 1 ∨ A (j + 1) - A j = -1)) → ¬ rowsOk D A len := fun h hall => h ((hall (j + 1) hlt).2.2.2.2 (by omega))
          have NO := Lib.hid no
          clear no
          have hsq := sq_bd (s := A (j + 1) - A j) (by omega)
          by_cases g1 : D (j + 1) < D j + 2
          · have hno := NO.out (by omega)
            have HN := Lib.hid hno
            clear hno
            go_wp2
            go_ret
            exact ⟨⟨_, rfl, Or.inl ⟨HN.out, rfl⟩⟩, rfl⟩
          · by_cases g2 : A (j + 1) - A j = 1 ∨ A (j + 1) - A j = -1
            · have b1 : ((A (j + 1) - A j) * (A (j + 1) - A j) != 1) = false := by
                rcases g2 with h | h <;> rw [h] <;> rfl
              have hz : rowOk D A (j + 1) := ⟨r1, r2, r3, r4, fun _ => ⟨by simp; omega, by simpa using g2⟩⟩
              have HZ := Lib.hid hz
              clear hz g2
              go_wp2
              go_roundw
              case rel =>
                refine ⟨j + 1 + 1, by omega, by go_num, ?_, by simp⟩
                intro i hi
                by_cases e : i = j + 1
                · rw [e]; exact HZ.out
                · exact hok.out i (by omega)
              case measure => simp [intOf]; omega
            · have b1 : ((A (j + 1) - A j) * (A (j + 1) - A j) != 1) = true := by
                rw [bne_iff_ne]; exact sq_one (fun h => g2 (Or.inl h)) (fun h => g2 (Or.inr h))
              have hno := NO.out (fun h => g2 h.2)
              have HN := Lib.hid hno
              clear hno g2
              go_wp2
              go_ret
              exact ⟨⟨_, rfl, Or.inl ⟨HN.out, rfl⟩⟩, rfl⟩
      · have hno : ¬ rowsOk D A len := fun hall => hr (by have := hall k hlt; unfold rowOk at this; omega)
        have HN := Lib.hid hno
        clear hno
        by_cases r1 : 4000000 < D k
        · clear hr
          go_wp2
          go_ret
          exact ⟨⟨_, rfl, Or.inl ⟨HN.out, rfl⟩⟩, rfl⟩
        · by_cases r2 : D k < -4000000
          · clear hr
            go_wp2
            go_ret
            exact ⟨⟨_, rfl, Or.inl ⟨HN.out, rfl⟩⟩, rfl⟩
          · by_cases r3 : 1000 < A k
            · clear hr
              go_wp2
              go_ret
              exact ⟨⟨_, rfl, Or.inl ⟨HN.out, rfl⟩⟩, rfl⟩
            · have r4 : A k < -1000 := by omega
              clear hr
              go_wp2
              go_ret
              exact ⟨⟨_, rfl, Or.inl ⟨HN.out, rfl⟩⟩, rfl⟩
    · have e : k = len := by omega
      subst e
      have HR := Lib.hid hok.out
      go_wp2
      go_ret
      exact ⟨⟨_, rfl, Or.inr ⟨HR.out, rfl⟩⟩, rfl⟩

/-- The number of a table's error. -/
def badE (len : Nat) : Int := if 60 < len then 2 else 4
theorem terr_good (D A : Nat → Int) (a : Option Addr) (len cap : Nat) (w : World) (h : Tab w a len D A) (g : goodT D A len) :
    Calls Tryd.prog 57 #[.slice a len cap] w fun e w' => e = .returned (.int .i64 0) ∧ w = w' := by
  rcases h with rfl | ⟨b, off, rfl, hc⟩
  · exact terr_zero a cap w
  · refine (terr_short D A b off len cap g.1 w hc).mono ?_
    rintro e w' ⟨⟨v, rfl, hv⟩, hw⟩
    refine ⟨?_, hw⟩
    rcases hv with ⟨h1, _⟩ | ⟨_, h2⟩
    · exact absurd g.2 h1
    · rw [h2]
theorem terr_bad (D A : Nat → Int) (a : Option Addr) (len cap : Nat) (w : World) (h : Tab w a len D A) (g : ¬ goodT D A len) :
    Calls Tryd.prog 57 #[.slice a len cap] w fun e w' => e = .returned (.int .i64 (badE len)) ∧ w = w' := by
  by_cases hl : 60 < len
  · have e : badE len = 2 := by unfold badE; rw [if_pos hl]
    rw [e]
    exact terr_long a len cap hl w
  · have e : badE len = 4 := by unfold badE; rw [if_neg hl]
    rw [e]
    rcases h with rfl | ⟨b, off, rfl, hc⟩
    · exact absurd ⟨by omega, fun i hi => absurd hi (Nat.not_lt_zero _)⟩ g
    · refine (terr_short D A b off len cap (by omega) w hc).mono ?_
      rintro e w' ⟨⟨v, rfl, hv⟩, hw⟩
      refine ⟨?_, hw⟩
      rcases hv with ⟨_, h2⟩ | ⟨h1, _⟩
      · rw [h2]
      · exact absurd ⟨by omega, h1⟩ g

/-! ### AheadOn -/
theorem days_up {D A : Nat → Int} {len : Nat} (h : rowsOk D A len) (i : Nat) (n : Nat) (hi : i + n < len) : D i ≤ D (i + n) := by
  induction n with
  | zero => simp
  | succ n ih =>
    have h1 := ih (by omega)
    have h2 := ((h (i + n + 1) (by omega)).2.2.2.2 (by omega)).1
    simp only [Nat.add_sub_cancel] at h2
    rw [show i + (n + 1) = i + n + 1 by omega]
    omega
theorem ahead_row {D A : Nat → Int} {day : Int} {len k : Nat} (h : rowsOk D A len) (hk : k < len) (h1 : 0 < k → D k ≤ day) (h2 : k + 1 < len → day < D (k + 1)) : ofTo D A day len = A k := by
  have key : ∀ n, k + 1 + n ≤ len → ofTo D A day (k + 1 + n) = A k := by
    intro n
    induction n with
    | zero =>
      intro _
      rw [Nat.add_zero, ofTo]
      by_cases c : k = 0
      · rw [if_pos (Or.inl c)]
      · rw [if_pos (Or.inr (h1 (by omega)))]
    | succ n ih =>
      intro hn
      have hd := days_up h (k + 1) n (by omega)
      have := h2 (by omega)
      rw [show k + 1 + (n + 1) = k + 1 + n + 1 by omega, ofTo, if_neg (by omega)]
      exact ih (by omega)
  have := key (len - (k + 1)) (by omega)
  rwa [show k + 1 + (len - (k + 1)) = len by omega] at this

theorem aheadOn_any (D A : Nat → Int) (day : Int) (a : Option Addr) (len cap : Nat) (w : World) (h : Tab w a len D A) (g : goodT D A len) :
    Calls Tryd.prog 84 #[.slice a len cap, .int .i64 day] w fun e w' => e = .returned (.int .i64 (ofTo D A day len)) ∧ w = w' := by
  by_cases h0 : len = 0
  · subst h0
    have e : ofTo D A day 0 = 0 := rfl
    rw [e]
    go_enter Tryd.func84, Tryd.ntmps84
    go_wp2
    go_ret
    exact ⟨rfl, rfl⟩
  · rcases h with h | ⟨b, off, rfl, hc⟩
    · exact absurd h h0
    · have HC := Lib.hid hc
      have HG := Lib.hid g.2
      have hl := g.1
      have b0 : ((len : Int) == 0) = false := by simp; omega
      clear hc g
      go_enter Tryd.func84, Tryd.ntmps84
      go_wp2
      go_loopw [5] (fun x wr => ∃ k : Nat, x = .int .i64 k ∧ k < len ∧ Hid (0 < k → D k ≤ day) ∧ w = wr) (fun x _ => len - (intOf x).toNat)
      case atStart => exact ⟨0, rfl, by omega, fun h => absurd h (by omega), rfl⟩
      case round =>
        obtain ⟨k, rfl, hk, hd, rfl⟩ := hrel
        obtain ⟨_, c2, _, h4⟩ := HC.out k hk
        by_cases c : k + 1 < len
        · obtain ⟨p1, p2, q3, q4⟩ := HC.out (k + 1) c
          by_cases cd : D (k + 1) ≤ day
          · have HD := Lib.hid cd
            clear c2 p2
            go_wp2
            go_roundw
            case rel => exact ⟨k + 1, by go_num, c, fun _ => HD.out, by simp⟩
            case measure => simp [intOf]; omega
          · have e := ahead_row HG.out hk hd.out (fun _ => by omega)
            have HE := Lib.hid e
            clear e p2
            go_wp2
            go_ret
            exact ⟨by rw [HE.out]; rfl, rfl⟩
        · have e := ahead_row HG.out hk hd.out (fun h => absurd h c)
          have HE := Lib.hid e
          clear e
          go_wp2
          go_ret
          exact ⟨by rw [HE.out]; rfl, rfl⟩
end Go.Proofs.YtjdjncfpcbeedaaDoor
