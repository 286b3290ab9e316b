/- The law Names: its walk. -/
import Derived.Test.YtlhfmeekbijhgaaDoorCode
namespace Go.Proofs.YtlhfmeekbijhgaaDoor
open Go.RowKit

theorem coded_err (ad : Nat → Addr) (i : Nat) (code : Int) (hi : i < 10) (hc : (i : Int) + 1 = code) (w : World) (h : Sents w ad) :
    Calls Tryd.prog 12 #[errV ad i, .int .i64 code] w fun e w' => e = .returned (.bool true) ∧ Below w.heap.size w w' := by
  have HC := Lib.hid (code_err ad i hi w h)
  have b0 : ((i : Int) + 1 == code) = true := by simpa using hc
  clear h
  unfold errV at HC ⊢
  go_enter Tryd.func12, Tryd.ntmps12
  go_wp2_with fail
  refine HC.out.mono ?_; rintro e w1 ⟨rfl, hb1⟩
  go_wp2
  go_ret
  exact ⟨rfl, hb1⟩

theorem names_any (ad : Nat → Addr) (w : World) (h : Sents w ad) :
    Calls Tryd.prog 4 #[] w fun e w' => e = .returned (.bool true) ∧ Below w.heap.size w w' := by
  have HS := Lib.hid h
  have e0 : w.cell? ⟨0, 0, none⟩ = some (.iface 102 (.pointer (some (ad 0)))) := h.1 0 (by decide)
  have e1 : w.cell? ⟨1, 0, none⟩ = some (.iface 102 (.pointer (some (ad 1)))) := h.1 1 (by decide)
  have e2 : w.cell? ⟨2, 0, none⟩ = some (.iface 102 (.pointer (some (ad 2)))) := h.1 2 (by decide)
  have e3 : w.cell? ⟨3, 0, none⟩ = some (.iface 102 (.pointer (some (ad 3)))) := h.1 3 (by decide)
  have e4 : w.cell? ⟨4, 0, none⟩ = some (.iface 102 (.pointer (some (ad 4)))) := h.1 4 (by decide)
  have e5 : w.cell? ⟨5, 0, none⟩ = some (.iface 102 (.pointer (some (ad 5)))) := h.1 5 (by decide)
  have e6 : w.cell? ⟨6, 0, none⟩ = some (.iface 102 (.pointer (some (ad 6)))) := h.1 6 (by decide)
  have e7 : w.cell? ⟨7, 0, none⟩ = some (.iface 102 (.pointer (some (ad 7)))) := h.1 7 (by decide)
  have e8 : w.cell? ⟨8, 0, none⟩ = some (.iface 102 (.pointer (some (ad 8)))) := h.1 8 (by decide)
  have e9 : w.cell? ⟨9, 0, none⟩ = some (.iface 102 (.pointer (some (ad 9)))) := h.1 9 (by decide)
  clear h
  go_enter Tryd.func4, Tryd.ntmps4
  go_wp2
  clear e0 e1 e2 e3 e4 e5 e6 e7 e8 e9
  have hs0 : ∀ j, j < 10 → (w.alloc (.cells #[errV ad 0, errV ad 1, errV ad 2, errV ad 3, errV ad 4, errV ad 5, errV ad 6, errV ad 7, errV ad 8, errV ad 9] 27)).cell? ⟨w.heap.size, j, none⟩ = some (errV ad j) := by
    intro j hj
    rcases j with _ | _ | _ | _ | _ | _ | _ | _ | _ | _ | j
    all_goals first | omega | simp
  have HS0 := Lib.hid hs0
  clear hs0
  go_loopw [4] (fun v wr => ∃ k : Nat, k ≤ 10 ∧ v = .int .i64 k ∧ Below w.heap.size w wr ∧ w.heap.size < wr.heap.size ∧ Hid (∀ j, j < 10 → wr.cell? ⟨w.heap.size, j, none⟩ = some (errV ad j))) (fun v _ => 10 - (intOf v).toNat)
  case atStart =>
    refine ⟨0, by omega, rfl, (Below.refl _ _).alloc (Nat.le_refl _) _, by simp, HS0⟩
  case round =>
    obtain ⟨k, hk, rfl, hb, hsz, hcs⟩ := hrel
    clear HS0
    by_cases hlt : k < 10
    · have HB := Lib.hid hb
      have c1 : wr.cell? ⟨w.heap.size, k, none⟩ = some (.iface 102 (.pointer (some (ad k)))) := hcs.out k hlt
      have hk10 : decide ((k : Int) < 10) = true := by simp; omega
      clear hb
      go_wp2
      generalize wr = wo at *
      go_loopw [5] (fun v wr2 => ∃ m : Nat, m ≤ k ∧ v = .int .i64 m ∧ Below wo.heap.size wo wr2) (fun v _ => 10 - (intOf v).toNat)
      case atStart => exact ⟨0, by omega, rfl, Below.refl _ _⟩
      case round =>
        generalize wr = wr2 at *
        obtain ⟨m, hm, rfl, hb2⟩ := hrel
        have hsz2 := hb2.size
        have d1 : wr2.cell? ⟨w.heap.size, k, none⟩ = some (.iface 102 (.pointer (some (ad k)))) := by rw [hb2.cell (p := ⟨w.heap.size, k, none⟩) hsz]; exact c1
        have HS2 := Lib.hid ((HS.out.below HB.out).below hb2)
        have HB2 := Lib.hid hb2
        clear hb2
        by_cases hlm : m < k
        · have d2 : wr2.cell? ⟨w.heap.size, m, none⟩ = some (.iface 102 (.pointer (some (ad m)))) := by rw [HB2.out.cell (p := ⟨w.heap.size, m, none⟩) hsz]; exact hcs.out m (by omega)
          have ed : decide (k = m) = false := by simp; omega
          have HI := Lib.hid (fun W (h : Sents W ad) => is_any ad k m hlt (by omega) W h)
          rw [ed] at HI
          unfold errV at HI
          have hm10 : m < 10 := by omega
          have hm11 : (m : Int) < 10 := by omega
          have hk11 : (k : Int) < 10 := by omega
          clear c1 ed
          go_wp2
          go_region_held3 (fun W => W.cell? ⟨w.heap.size, k, none⟩ = some (.iface 102 (.pointer (some (ad k)))) ∧ W.cell? ⟨w.heap.size, m, none⟩ = some (.iface 102 (.pointer (some (ad m)))))
            (first | go_keep)
            (first | (go_at_call 11; refine (HI.out _ (HS2.out.below (below_drewN (Below.refl _ _) 1))).mono ?_; rintro e w2 ⟨rfl, rfl⟩))
          have HB3 := Lib.hid (below_drewN HB2.out 1)
          clear d1 d2 HI
          go_wp2
          go_roundw
          case rel => exact ⟨m + 1, by omega, by go_num, HB3.out⟩
          case measure => simp [intOf]; omega
        · obtain rfl : m = k := by omega
          have HC := Lib.hid (fun W (h : Sents W ad) => coded_err ad m ((m : Int) + 1) hlt rfl W h)
          unfold errV at HC
          clear c1
          go_wp2_with fail
          refine (HC.out _ HS2.out).mono ?_; rintro e w3 ⟨rfl, hb3⟩
          have hb13 := below_step HB2.out hb3
          have hcs3 : ∀ j, j < 10 → w3.cell? ⟨w.heap.size, j, none⟩ = some (errV ad j) := fun j hj => by rw [hb13.cell (p := ⟨w.heap.size, j, none⟩) hsz]; exact hcs.out j hj
          have HC3 := Lib.hid hcs3
          have HB3 := Lib.hid (below_step HB.out hb13)
          have hsz3 := hb3.size
          clear hb13 hcs3 hb3 HC
          go_wp2
          go_roundw
          case rel => exact ⟨m + 1, by omega, by go_num, HB3.out, by omega, HC3⟩
          case measure => simp [intOf]; omega
    · obtain rfl : k = 10 := by omega
      go_wp2
      go_ret
      exact ⟨rfl, hb⟩
end Go.Proofs.YtlhfmeekbijhgaaDoor
