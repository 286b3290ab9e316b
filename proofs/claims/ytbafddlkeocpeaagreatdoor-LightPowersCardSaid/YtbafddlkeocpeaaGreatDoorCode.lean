/- plain.Code at nil and at the ten sentinels. -/
import Derived.Test.YtbafddlkeocpeaaGreatDoorAs
namespace Go.Proofs.YtbafddlkeocpeaaGreatDoor
open Go.RowKit

/-- The ten sentinels lie in their variables, each in a row of its own; the type error's handle in its variable. -/
def Sents (w : World) (ad : Nat → Addr) : Prop :=
  (∀ i, i < 10 → w.cell? ⟨errG i, 0, none⟩ = some (errV ad i)) ∧ (∀ i, i < 10 → ∃ ca ta, w.heap[(ad i).block]? = some (.cells ca ta (0, 0))) ∧ (∀ i j, i < 10 → j < 10 → ad i = ad j → i = j) ∧
  w.cell? ⟨11, 0, none⟩ = some (.iface 103 (.agg #[.pointer (some ⟨27, 25, none⟩)]))
theorem Sents.below {w w' : World} {ad : Nat → Addr} (h : Sents w ad) (hb : Below w.heap.size w w') : Sents w' ad := by
  obtain ⟨h1, h2, h3, h4⟩ := h
  refine ⟨fun i hi => ?_, fun i hi => ?_, h3, ?_⟩
  · rw [hb.cell (p := ⟨errG i, 0, none⟩) (cell_lt (h1 i hi))]; exact h1 i hi
  · obtain ⟨ca, ta, e⟩ := h2 i hi
    refine ⟨ca, ta, ?_⟩
    have hlt : (ad i).block < w.heap.size := by
      rcases Nat.lt_or_ge (ad i).block w.heap.size with g | g
      · exact g
      · simp [Array.getElem?_eq_none g] at e
    rw [hb.block _ hlt]; exact e
  · rw [hb.cell (p := ⟨11, 0, none⟩) (cell_lt h4)]; exact h4
theorem Sents.errs {w : World} {ad : Nat → Addr} (h : Sents w ad) (l : List Nat) (hl : ∀ i, i ∈ l → i < 10) : Errs w ad l := fun i hi => h.1 i (hl i hi)

theorem is_any (ad : Nat → Addr) (i j : Nat) (hi : i < 10) (hj : j < 10) (w : World) (h : Sents w ad) :
    Calls Tryz.prog 30 #[errV ad i, errV ad j] w fun e w' => e = .returned (.bool (decide (i = j))) ∧ w = w' := by
  by_cases c : i = j
  · subst c
    have e : decide (i = i) = true := by simp
    rw [e]
    exact is_same (ad i) w
  · have e : decide (i = j) = false := by simpa using c
    rw [e]
    obtain ⟨ca, ta, ha⟩ := h.2.1 i hi
    obtain ⟨cb, tb, hb⟩ := h.2.1 j hj
    exact is_other (ad i) (ad j) ca cb ta tb w (fun q => c (h.2.2.1 i j hi hj q)) ha hb

theorem code_nil (w : World) :
    Calls Tryz.prog 15 #[.nilIface] w fun e w' => e = .returned (.tuple #[.int .i64 0, .int .i64 (-1)]) ∧ Below w.heap.size w w' := by
  go_enter Tryz.func15, Tryz.ntmps15
  go_wp2
  go_ret2
  exact ⟨rfl, by go_grown⟩

theorem code_err (ad : Nat → Addr) (i : Nat) (hi : i < 10) (w : World) (h : Sents w ad) :
    Calls Tryz.prog 15 #[errV ad i] w fun e w' => e = .returned (.tuple #[.int .i64 ((i : Int) + 1), .int .i64 (-1)]) ∧ Below w.heap.size w w' := by
  have hb0 : ∀ o, Below w.heap.size w (w.alloc o) := fun o => (Below.refl _ _).alloc (Nat.le_refl _) _
  have HS := Lib.hid h
  have HA := Lib.hid (fun o t => as_miss (ad i) t (w.alloc o) (h.below (hb0 o)).2.2.2)
  clear h
  unfold errV
  go_enter Tryz.func15, Tryz.ntmps15
  go_wp2_with fail
  refine (HA.out _ _).mono ?_; rintro e w1 ⟨rfl, hb1⟩
  have hb2 := below_step (hb0 _) hb1
  have HS1 := Lib.hid (HS.out.below hb2)
  have HB := Lib.hid hb2
  clear hb0 hb1 hb2 HA HS
  have e0 : w1.cell? ⟨2, 0, none⟩ = some (.iface 278 (.pointer (some (ad 0)))) := HS1.out.1 0 (by decide)
  have e1 : w1.cell? ⟨1, 0, none⟩ = some (.iface 278 (.pointer (some (ad 1)))) := HS1.out.1 1 (by decide)
  have e2 : w1.cell? ⟨3, 0, none⟩ = some (.iface 278 (.pointer (some (ad 2)))) := HS1.out.1 2 (by decide)
  have e3 : w1.cell? ⟨4, 0, none⟩ = some (.iface 278 (.pointer (some (ad 3)))) := HS1.out.1 3 (by decide)
  have e4 : w1.cell? ⟨0, 0, none⟩ = some (.iface 278 (.pointer (some (ad 4)))) := HS1.out.1 4 (by decide)
  have e5 : w1.cell? ⟨5, 0, none⟩ = some (.iface 278 (.pointer (some (ad 5)))) := HS1.out.1 5 (by decide)
  have e6 : w1.cell? ⟨6, 0, none⟩ = some (.iface 278 (.pointer (some (ad 6)))) := HS1.out.1 6 (by decide)
  have e7 : w1.cell? ⟨7, 0, none⟩ = some (.iface 278 (.pointer (some (ad 7)))) := HS1.out.1 7 (by decide)
  have e8 : w1.cell? ⟨8, 0, none⟩ = some (.iface 278 (.pointer (some (ad 8)))) := HS1.out.1 8 (by decide)
  have e9 : w1.cell? ⟨9, 0, none⟩ = some (.iface 278 (.pointer (some (ad 9)))) := HS1.out.1 9 (by decide)
  go_wp2
  clear e0 e1 e2 e3 e4 e5 e6 e7 e8 e9
  go_loopw [3, 28] (fun at' v wr => ∃ k : Nat, k ≤ i ∧ v = .int .i64 k ∧ at' = .int .i64 (-1) ∧ Below w1.heap.size w1 wr ∧ Hid (∀ j, j < 10 → wr.cell? ⟨w1.heap.size, j, none⟩ = some (errV ad j))) (fun _ v _ => 10 - (intOf v).toNat)
  case atStart =>
    refine ⟨0, by omega, rfl, rfl, (Below.refl _ _).alloc (Nat.le_refl _) _, Lib.hid fun j hj => ?_⟩
    rcases j with _ | _ | _ | _ | _ | _ | _ | _ | _ | _ | j
    all_goals first | omega | (simp [errV])
  case round =>
    obtain ⟨k, hk, rfl, rfl, hb, hcs⟩ := hrel
    have c1 : wr.cell? ⟨w1.heap.size, k, none⟩ = some (.iface 278 (.pointer (some (ad k)))) := hcs.out k (by omega)
    have HI := Lib.hid (is_any ad i k hi (by omega) wr (HS1.out.below hb))
    have HB2 := Lib.hid (below_step HB.out hb)
    unfold errV at HI
    by_cases c : i = k
    · subst c
      have ed : decide (i = i) = true := by simp
      rw [ed] at HI
      clear hcs hk
      go_wp2_with fail
      refine HI.out.mono ?_; rintro e w2 ⟨rfl, rfl⟩
      clear HI
      go_wp2
      go_ret2
      exact ⟨rfl, HB2.out⟩
    · have ed : decide (i = k) = false := by simpa using c
      rw [ed] at HI
      have hk' : k < i := by omega
      clear hk c
      go_wp2_with fail
      refine HI.out.mono ?_; rintro e w2 ⟨rfl, rfl⟩
      clear HI
      go_wp2
      go_roundw
      case rel => exact ⟨k + 1, by omega, by go_num, rfl, hb, hcs⟩
      case measure => simp [intOf]; omega
end Go.Proofs.YtbafddlkeocpeaaGreatDoor
