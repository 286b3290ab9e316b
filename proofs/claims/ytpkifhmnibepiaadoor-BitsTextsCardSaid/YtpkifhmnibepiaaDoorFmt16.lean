/- internal/strconv.formatBits and FormatUint at base 16. -/
import Derived.Test.YtpkifhmnibepiaaDoorTz
import Derived.Test.YtpkifhmnibepiaaDoorHexP
import Derived.Test.YtpkifhmnibepiaaDoorTxtP
import Derived.WalkSmall
import Derived.Lib.ItoaMem
namespace Go.Proofs.YtpkifhmnibepiaaDoor
open Go.RowKit

def d36 : ByteArray := { data := #[48, 49, 50, 51, 52, 53, 54, 55, 56, 57, 97, 98, 99, 100, 101, 102, 103, 104, 105, 106, 107, 108, 109, 110, 111, 112, 113, 114, 115, 116, 117, 118, 119, 120, 121, 122] }
theorem d36_at (k : Nat) (hk : k < 16) (W : World) : (Instr.index 9 (.string d36) (.int .u64 (k : Int))).run Tryd.prog W = .ok (.int .u8 (hexC k : Nat)) W := by
  have hz : d36.size = 36 := rfl
  rw [run_index_string W 9 d36 .u64 k Tryd.underlying9, dif_pos (by omega)]
  have h : ∀ x : Fin 16, bt d36 x.1 = hexC x.1 := by decide +kernel
  have e : (d36[((k : Nat) : Int).toNat]'(by rw [hz]; omega)).toNat = hexC k := by
    rw [← bt_in (s := d36) (by rw [hz]; omega), Int.toNat_natCast]
    exact h ⟨k, hk⟩
  rw [e]
theorem hexC_lt (k : Nat) (hk : k < 16) : hexC k < 256 := by unfold hexC; split <;> omega
theorem hexL_at : ∀ L n j (h : j < (hexL L n).length), ((hexL L n)[j]'h).toNat = hexC (n / 16 ^ (L - 1 - j) % 16)
  | 0, n, j, h => by simp [hexL] at h
  | L + 1, n, j, h => by
    have hk := hexC_lt (n / 16 ^ L % 16) (by omega)
    rw [hexL_length] at h
    simp only [hexL_cons]
    cases j with
    | zero => simp <;> omega
    | succ j =>
      simp only [List.getElem_cons_succ]
      rw [hexL_at L n j (by rw [hexL_length]; omega), show L + 1 - 1 - (j + 1) = L - 1 - j by omega]
structure Row65 (A u k : Nat) (w wr : World) : Prop where
  dig : ∀ t, t < 64 - k → wr.cell? ⟨A, 64 - t, none⟩ = some (.int .u8 (hexC (u / 16 ^ t % 16) : Nat))
  has : ∀ j, j < 65 → ∃ z : Int, wr.cell? ⟨A, j, none⟩ = some (.int .u8 z)
  free : ∀ j, wr.frozen? ⟨A, j, none⟩ = false
  bel : Below w.heap.size w wr
theorem Row65.put {A u k : Nat} {w wr : World} (h : Row65 A u k w wr) (hA : w.heap.size ≤ A) (h49 : 49 ≤ k) (h64 : k ≤ 64) {y : Int} (hy : y = (hexC (u / 16 ^ (64 - k) % 16) : Nat)) : Row65 A u (k - 1) w (wr.setCell ⟨A, k, none⟩ (.int .u8 y)) := by
  obtain ⟨z, hz⟩ := h.has k (by omega)
  refine ⟨fun t ht => ?_, fun j hj => ?_, fun j => by rw [World.frozen?_setCell]; exact h.free j, h.bel.setCell hA _⟩
  · by_cases c : t = 64 - k
    · subst c
      rw [show 64 - (64 - k) = k by omega, World.cell?_setCell_same _ _ _ hz, hy]
    · rw [World.cell?_setCell_other _ _ _ _ (by simp <;> omega)]
      exact h.dig t (by omega)
  · by_cases c : j = k
    · subst c
      exact ⟨y, World.cell?_setCell_same _ _ _ hz⟩
    · obtain ⟨z', hz'⟩ := h.has j hj
      exact ⟨z', by rw [World.cell?_setCell_other _ _ _ _ (by simp <;> omega)]; exact hz'⟩
theorem Row65.text {A u k : Nat} {w wr : World} (h : Row65 A u (k - 1) w wr) (h1 : 1 ≤ k) (h64 : k ≤ 64) : (convert 166 9 (.slice (some ⟨A, k, none⟩) (65 - k) (65 - k))).run Tryd.prog wr = .ok (.string (bs (hexL (65 - k) u))) wr := by
  have hh := run_convert_bytes_back (P := Tryd.prog) wr 166 9 5 ⟨A, k, none⟩ (65 - k) (hexL (65 - k) u) Tryd.underlying166 Tryd.underlying5 Tryd.underlying9 (fun j hj => by
    have hj' : j < 65 - k := by rw [hexL_length] at hj; exact hj
    rw [hexL_at, Lib.add_plain]
    have := h.dig (65 - k - 1 - j) (by omega)
    rw [show 64 - (65 - k - 1 - j) = k + j by omega] at this
    exact this)
  rw [hexL_length] at hh
  exact hh
set_option maxRecDepth 20000 in
set_option maxHeartbeats 4000000 in
theorem formatBits_any (u : Nat) (hu : u < 18446744073709551616) (w : World) (hD : DB w) :
    Calls Tryd.prog 155 #[.slice none 0 0, .int .u64 u, .int .i64 16, .bool false, .bool false] w fun e w' => ∃ d L, e = .returned (.tuple #[.slice none 0 0, .string d]) ∧ Hid (1 ≤ L ∧ L ≤ 16 ∧ u < 16 ^ L ∧ d = bs (hexL L u)) ∧ Below w.heap.size w w' := by
  have HP := Lib.hid (fun W => pow2_any W)
  have HT := Lib.hid (fun W h => tz_any W h)
  have HD := Lib.hid hD
  clear hD
  go_enter Tryd.func155, Tryd.ntmps155
  go_wp2_with fail
  refine (HP.out _).mono ?_; rintro e w1 ⟨rfl, rfl⟩
  go_wp2_with fail
  refine (HT.out _ (HD.out.below ((Below.refl _ _).alloc (Nat.le_refl _) _))).mono ?_; rintro e w1 ⟨rfl, hb1⟩
  go_wp2
  have hz65 : Tryd.zeroCells233 = Array.replicate 65 (.int .u8 0) := by kernel_rfl
  have HR : Hid (Row65 w.heap.size u 64 w w1) := Lib.hid ⟨fun t ht => by omega, fun j hj => ⟨0, by rw [hb1.cell (p := ⟨w.heap.size, j, none⟩) (by simp)]; simp; rw [hz65]; simp [hj]⟩, fun j => by rw [hb1.frozen (p := ⟨w.heap.size, j, none⟩) (by simp)]; simp, below_step ((Below.refl _ _).alloc (Nat.le_refl _) _) hb1⟩
  clear hb1 HP HT HD hz65
  have hal : Tryd.prog.arrayLen 233 = 65 := by kernel_rfl
  go_loopw [1, 13] (fun n v wr => ∃ (k m : Nat), 49 ≤ k ∧ k ≤ 64 ∧ m < 18446744073709551616 ∧ n = .int .u64 m ∧ v = .int .i64 ((k : Int) + 1) ∧ Hid (m = u / 16 ^ (64 - k)) ∧ Hid (Row65 w.heap.size u k w wr)) (fun n _ _ => (intOf n).toNat)
  case atStart => exact ⟨64, u, by omega, by omega, hu, rfl, rfl, Lib.hid (by simp), HR⟩
  case round =>
    obtain ⟨k, m, hk, hk2, hm, rfl, rfl, HM, HW⟩ := hrel
    obtain ⟨z, hz⟩ := HW.out.has k (by omega)
    have hf := HW.out.free k
    by_cases c : 16 ≤ m
    · obtain ⟨q, hq, HQ⟩ : ∃ q, q < 16 ∧ Hid (q = m % 16) := ⟨m % 16, by omega, Lib.hid rfl⟩
      have hand : bits .and .u64 (m : Int) 15 = (q : Int) := by rw [u64_and15 m hm, HQ.out]
      have hix := fun W => d36_at q hq W
      have HY : Hid ((hexC q : Int) = (hexC (u / 16 ^ (64 - k) % 16) : Nat)) := Lib.hid (by rw [HQ.out, HM.out])
      have hy : hexC q < 256 := hexC_lt q hq
      have hk50 : 50 ≤ k := by
        rcases Nat.lt_or_ge k 50 with h | h
        · exfalso
          have e : k = 49 := by omega
          have hm2 := HM.out
          rw [e] at hm2
          have : m < 16 := by
            rw [hm2, show 64 - 49 = 15 by decide]
            omega
          omega
        · exact h
      have HN : Hid (m / 16 = u / 16 ^ (64 - (k - 1))) := Lib.hid (by
        rw [HM.out, show 64 - (k - 1) = 64 - k + 1 by omega, Nat.pow_succ, Nat.div_div_eq_div_mul])
      generalize hexC q = y at *
      unfold d36 at hix
      go_wp2
      go_roundw
      case rel => exact ⟨k - 1, m / 16, by omega, by omega, by omega, by go_num, by rw [show ((k - 1 : Nat) : Int) + 1 = (k : Int) by omega], HN, Lib.hid (HW.out.put (Nat.le_refl _) hk hk2 HY.out)⟩
      case measure => simp [intOf]; omega
    · have hq : m < 16 := by omega
      have hix := fun W => d36_at m hq W
      have HY : Hid ((hexC m : Int) = (hexC (u / 16 ^ (64 - k) % 16) : Nat)) := Lib.hid (by rw [← HM.out, Nat.mod_eq_of_lt hq])
      have hy : hexC m < 256 := hexC_lt m hq
      generalize hexC m = y at *
      have HW2 := Lib.hid (HW.out.put (Nat.le_refl _) hk hk2 HY.out)
      have hcv := HW2.out.text (by omega) hk2
      have hsl : ∀ W, (Instr.sliceAt 233 (.pointer (some ⟨w.heap.size, 0, none⟩)) (some (.int .i64 (k : Int))) none none).run Tryd.prog W = .ok (.slice (some ⟨w.heap.size, k, none⟩) (65 - k) (65 - k)) W := fun W => by
        rw [run_sliceAt_array_l W 233 ⟨w.heap.size, 0, none⟩ (by simp [Program.arrayLen, Program.elem, Tryd.underlying233]) .i64 (k : Int) (by omega) (by rw [hal]; omega), hal]
        have hne : ¬ 65 = k := by omega
        go_simp
      unfold d36 at hix
      go_wp2
      go_ret2
      refine ⟨_, rfl, ⟨65 - k, Lib.hid ⟨by omega, by omega, ?_, rfl⟩⟩, HW2.out.bel⟩
      have hm2 := HM.out
      have hpos : 0 < 16 ^ (64 - k) := Nat.pow_pos (by decide)
      have h := (Nat.div_lt_iff_lt_mul hpos).1 (by rw [← hm2]; exact hq)
      rw [show 65 - k = 64 - k + 1 by omega, Nat.pow_succ, Nat.mul_comm]
      exact h
set_option maxHeartbeats 2000000 in
theorem ifmt16_any (u : Nat) (hu : u < 18446744073709551616) (w : World) (hD : DB w) :
    Calls Tryd.prog 118 #[.int .u64 u, .int .i64 16] w fun e w' => ∃ d L, e = .returned (.string d) ∧ Hid (1 ≤ L ∧ L ≤ 16 ∧ u < 16 ^ L ∧ d = bs (hexL L u)) ∧ Below w.heap.size w w' := by
  have H := Lib.hid (formatBits_any u hu w hD)
  clear hD
  go_enter Tryd.func118, Tryd.ntmps118
  go_wp2_with fail
  refine H.out.mono ?_; rintro e w1 ⟨d, L, rfl, HL, hb⟩
  go_wp2
  go_ret
  exact ⟨d, L, rfl, HL, hb⟩
theorem fmt16_any (u : Nat) (hu : u < 18446744073709551616) (w : World) (hD : DB w) :
    Calls Tryd.prog 76 #[.int .u64 u, .int .i64 16] w fun e w' => ∃ d L, e = .returned (.string d) ∧ Hid (1 ≤ L ∧ L ≤ 16 ∧ u < 16 ^ L ∧ d = bs (hexL L u)) ∧ Below w.heap.size w w' := by
  have H := Lib.hid (ifmt16_any u hu w hD)
  clear hD
  go_enter Tryd.func76, Tryd.ntmps76
  go_wp2_with fail
  refine H.out.mono ?_; rintro e w1 ⟨d, L, rfl, HL, hb⟩
  go_wp2
  go_ret
  exact ⟨d, L, rfl, HL, hb⟩
end Go.Proofs.YtpkifhmnibepiaaDoor
