/- plain.Code and faulted at a *api.Fault. -/
import Derived.Test.YtjdjncfpcbeedaaDoorFaultIs
namespace Go.Proofs.YtjdjncfpcbeedaaDoor
open Go.RowKit

theorem hb1c {W w1 : World} (hb : Below W.heap.size W w1) : (∀ b o, b < W.heap.size → w1.cell? ⟨b, o, none⟩ = W.cell? ⟨b, o, none⟩) ∧ (∀ b o, b < W.heap.size → w1.frozen? ⟨b, o, none⟩ = W.frozen? ⟨b, o, none⟩) :=
  ⟨fun b o h => hb.cell (p := ⟨b, o, none⟩) h, fun b o h => hb.frozen (p := ⟨b, o, none⟩) h⟩
theorem as_hitB (e : Addr) (w : World) (hg : w.cell? ⟨10, 0, none⟩ = some (.iface 174 (.agg #[.pointer (some ⟨15, 26, none⟩)]))) :
    Calls Tryd.prog 72 #[.iface 103 (.pointer (some e)), .iface 126 (.pointer (some ⟨w.heap.size, 0, none⟩))] (w.alloc (.cells #[.pointer none] 103)) fun ev w' => ev = .returned (.bool true) ∧ w'.cell? ⟨w.heap.size, 0, none⟩ = some (.pointer (some e)) ∧ Below w.heap.size w w' := by
  have hlt := cell_lt hg
  refine (as_hit e ⟨w.heap.size, 0, none⟩ (.pointer none) _ (by rw [World.cell?_alloc_lt _ _ ⟨10, 0, none⟩ hlt]; exact hg) (by simp) (by simp)).mono ?_
  rintro ev w' ⟨he, rfl⟩
  refine ⟨he, World.cell?_setCell_same _ _ _ (show _ = some (Value.pointer none) by go_simp), ?_⟩
  exact (((((Below.refl _ _).alloc (Nat.le_refl _) _).alloc (by simp) _).alloc (by simp; omega) _).alloc (by simp; omega) _ |>.alloc (by simp; omega) _).setCell (Nat.le_refl _) _
def faultV (p : Nat) : Value := .iface 103 (.pointer (some ⟨p, 0, none⟩))
theorem code_fault (ad : Nat → Addr) (p i : Nat) (k : Int) (hi : i < 10) (w : World) (h : Sents w ad) (h0 : w.cell? ⟨p, 0, none⟩ = some (.int .i64 k)) (h1 : w.cell? ⟨p, 1, none⟩ = some (errV ad i)) :
    Calls Tryd.prog 41 #[faultV p] w fun e w' => e = .returned (.tuple #[.int .i64 ((i : Int) + 1), .int .i64 k]) ∧ Below w.heap.size w w' := by
  have hb0 : ∀ o, Below w.heap.size w (w.alloc o) := fun o => (Below.refl _ _).alloc (Nat.le_refl _) _
  have HS := Lib.hid h
  have HA := Lib.hid (as_hitB ⟨p, 0, none⟩ w h.2.2.2)
  have hp := cell_lt h0
  have HP0 := Lib.hid h0
  have HP1 := Lib.hid h1
  clear h h0 h1
  unfold faultV
  go_enter Tryd.func41, Tryd.ntmps41
  go_wp2_with fail
  refine (HA.out).mono ?_; rintro e w1 ⟨rfl, c1, hb1⟩
  have HS1 := Lib.hid (HS.out.below hb1)
  have HB := Lib.hid hb1
  have c2 : w1.cell? ⟨p, 0, none⟩ = some (.int .i64 k) := by rw [hb1.cell (p := ⟨p, 0, none⟩) hp]; exact HP0.out
  have HC3 : Hid (w1.cell? ⟨p, 1, none⟩ = some (errV ad i)) := Lib.hid (by rw [hb1.cell (p := ⟨p, 1, none⟩) hp]; exact HP1.out)
  have hp1 : Hid (p < w1.heap.size) := Lib.hid (by have := hb1.size; omega)
  clear hb0 hb1 HA HS HP0 HP1
  have e0 : w1.cell? ⟨3, 0, none⟩ = some (.iface 225 (.pointer (some (ad 0)))) := HS1.out.1 0 (by decide)
  have e1 : w1.cell? ⟨1, 0, none⟩ = some (.iface 225 (.pointer (some (ad 1)))) := HS1.out.1 1 (by decide)
  have e2 : w1.cell? ⟨2, 0, none⟩ = some (.iface 225 (.pointer (some (ad 2)))) := HS1.out.1 2 (by decide)
  have e3 : w1.cell? ⟨4, 0, none⟩ = some (.iface 225 (.pointer (some (ad 3)))) := HS1.out.1 3 (by decide)
  have e4 : w1.cell? ⟨0, 0, none⟩ = some (.iface 225 (.pointer (some (ad 4)))) := HS1.out.1 4 (by decide)
  have e5 : w1.cell? ⟨5, 0, none⟩ = some (.iface 225 (.pointer (some (ad 5)))) := HS1.out.1 5 (by decide)
  have e6 : w1.cell? ⟨6, 0, none⟩ = some (.iface 225 (.pointer (some (ad 6)))) := HS1.out.1 6 (by decide)
  have e7 : w1.cell? ⟨7, 0, none⟩ = some (.iface 225 (.pointer (some (ad 7)))) := HS1.out.1 7 (by decide)
  have e8 : w1.cell? ⟨8, 0, none⟩ = some (.iface 225 (.pointer (some (ad 8)))) := HS1.out.1 8 (by decide)
  have e9 : w1.cell? ⟨9, 0, none⟩ = some (.iface 225 (.pointer (some (ad 9)))) := HS1.out.1 9 (by decide)
  go_wp2
  clear e0 e1 e2 e3 e4 e5 e6 e7 e8 e9 c1 c2
  go_loopw [3, 28] (fun at' v wr => ∃ j : Nat, j ≤ i ∧ v = .int .i64 j ∧ at' = .int .i64 k ∧ Below w1.heap.size w1 wr ∧ Hid (∀ q, q < 10 → wr.cell? ⟨w1.heap.size, q, none⟩ = some (errV ad q))) (fun _ v _ => 10 - (intOf v).toNat)
  case atStart =>
    refine ⟨0, by omega, rfl, rfl, (Below.refl _ _).alloc (Nat.le_refl _) _, Lib.hid fun j hj => ?_⟩
    rcases j with _ | _ | _ | _ | _ | _ | _ | _ | _ | _ | j
    all_goals first | omega | (simp [errV])
  case round =>
    obtain ⟨j, hj, rfl, rfl, hb, hcs⟩ := hrel
    have c1 : wr.cell? ⟨w1.heap.size, j, none⟩ = some (.iface 225 (.pointer (some (ad j)))) := hcs.out j (by omega)
    have HI := Lib.hid (isF_any ad p i j hi (by omega) wr (HS1.out.below hb) (by rw [hb.cell (p := ⟨p, 1, none⟩) hp1.out]; exact HC3.out))
    have HB2 := Lib.hid (below_step HB.out hb)
    unfold errV at HI
    by_cases c : i = j
    · subst c
      have ed : decide (i = i) = true := by simp
      rw [ed] at HI
      clear hcs hj
      go_wp2_with fail
      refine HI.out.mono ?_; rintro e w2 ⟨rfl, rfl⟩
      clear HI
      go_wp2
      go_ret2
      exact ⟨rfl, HB2.out⟩
    · have ed : decide (i = j) = false := by simpa using c
      rw [ed] at HI
      have hj' : j < i := by omega
      clear hj c
      go_wp2_with fail
      refine HI.out.mono ?_; rintro e w2 ⟨rfl, rfl⟩
      clear HI
      go_wp2
      go_roundw
      case rel => exact ⟨j + 1, by omega, by go_num, rfl, hb, hcs⟩
      case measure => simp [intOf]; omega
/-- faulted of package meridianlaw1: no error, and none wanted. -/
theorem faulted_nil (w : World) (k : Int) :
    Calls Tryd.prog 27 #[.nilIface, .agg #[.int .i64 0, .int .i64 k]] w fun e w' => e = .returned (.bool true) ∧ Below w.heap.size w w' := by
  have HC := Lib.hid (fun w => code_nil w)
  go_enter Tryd.func27, Tryd.ntmps27
  go_wp2_with fail
  refine (HC.out _).mono ?_; rintro e w1 ⟨rfl, hb1⟩
  obtain ⟨hc, hf⟩ := hb1c hb1
  have HB := Lib.hid hb1
  clear hb1
  go_wp2
  go_ret
  exact ⟨rfl, below_step ((Below.refl _ _).alloc (Nat.le_refl _) _) HB.out⟩
theorem faulted_fault (ad : Nat → Addr) (p i : Nat) (k c : Int) (hi : i < 10) (hc : (i : Int) + 1 = c) (w : World) (h : Sents w ad) (h0 : w.cell? ⟨p, 0, none⟩ = some (.int .i64 k)) (h1 : w.cell? ⟨p, 1, none⟩ = some (errV ad i)) :
    Calls Tryd.prog 27 #[faultV p, .agg #[.int .i64 c, .int .i64 k]] w fun e w' => e = .returned (.bool true) ∧ Below w.heap.size w w' := by
  have hb0 : ∀ o, Below w.heap.size w (w.alloc o) := fun o => (Below.refl _ _).alloc (Nat.le_refl _) _
  have hp := cell_lt h0
  have HC := Lib.hid (fun o => code_fault ad p i k hi (w.alloc o) (h.below (hb0 o)) (by rw [(hb0 o).cell (p := ⟨p, 0, none⟩) hp]; exact h0) (by rw [(hb0 o).cell (p := ⟨p, 1, none⟩) hp]; exact h1))
  subst hc
  have d0 : ((i : Int) + 1 == 0) = false := by simp; omega
  clear h h0 h1 hb0
  unfold faultV at HC ⊢
  go_enter Tryd.func27, Tryd.ntmps27
  go_wp2_with fail
  refine (HC.out _).mono ?_; rintro e w1 ⟨rfl, hb1⟩
  obtain ⟨hc, hf⟩ := hb1c hb1
  have HB := Lib.hid hb1
  clear hb1
  go_wp2
  go_ret
  exact ⟨rfl, below_step ((Below.refl _ _).alloc (Nat.le_refl _) _) HB.out⟩
end Go.Proofs.YtjdjncfpcbeedaaDoor
