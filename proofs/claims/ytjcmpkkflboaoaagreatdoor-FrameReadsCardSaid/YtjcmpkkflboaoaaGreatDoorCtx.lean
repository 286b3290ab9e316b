/- slices.IndexFunc and ContainsFunc at cards, with frame.Write's two tests. -/
import Derived.Test.YtjcmpkkflboaoaaGreatDoorCtn
namespace Go.Proofs.YtjcmpkkflboaoaaGreatDoor
open Go.RowKit

set_option maxRecDepth 10000 in
set_option maxHeartbeats 2000000 in
theorem indexV_any (cs : List Crd) (a : Option Addr) (cap : Nat) (hn : cs.length ≤ 9223372036854775807) (w : World) (h : CRow w a cs) :
    Calls Tryz.prog 42 #[.slice a cs.length cap, .func (.func 21) #[] #[]] w fun e w' => (∃ r : Int, e = .returned (.int .i64 r) ∧ -1 ≤ r ∧ (0 ≤ r ↔ ∃ i, i < cs.length ∧ ¬ vlOk (vlC cs i))) ∧ Below w.heap.size w w' := by
  have HA := Lib.hid (fun i (hi : i < cs.length) W' (hb : Below w.heap.size w W') => (h.below hb).at hi)
  clear h
  obtain ⟨L, hL⟩ : ∃ L, cs.length = L := ⟨_, rfl⟩
  rw [hL] at hn HA ⊢
  clear hL
  go_enter Tryz.func42, Tryz.ntmps42
  go_wp2
  go_loopw [8] (fun i wr => ∃ k : Nat, k ≤ L ∧ i = .int .i64 k ∧ Hid (Below w.heap.size w wr) ∧ Hid (∀ j, j < k → ¬ (¬ vlOk (vlC cs j)))) (fun i _ => L - (intOf i).toNat)
  case atStart => exact ⟨0, Nat.zero_le _, rfl, Lib.hid (Below.refl _ _), Lib.hid (fun j hj => absurd hj (Nat.not_lt_zero _))⟩
  case round =>
    obtain ⟨k, hk, rfl, hB, hN⟩ := hrel
    by_cases hlt : k < L
    · obtain ⟨b, o, rfl, _, ⟨c1, c2⟩, h1, h2⟩ := HA.out k hlt wr hB.out
      have HF := Lib.hid (badValue_any (nmC cs k, vlC cs k) h2 wr)
      unfold aggC at HF
      simp only at HF
      have HPk : Hid (∀ e, BoolIs (¬ vlOk (vlC cs k)) e → (¬ vlOk (vlC cs k) ∧ e = .returned (.bool true)) ∨ (¬ (¬ vlOk (vlC cs k)) ∧ e = .returned (.bool false))) := Lib.hid (fun e h => h.cases)
      generalize bs (nmC cs k) = s at *
      generalize bs (vlC cs k) = t at *
      go_wp2_with fail
      refine HF.out.mono ?_; rintro e w1 ⟨hbo, hb1⟩
      have HB1 := Lib.hid (below_step hB.out hb1)
      have hc := HPk.out e hbo
      clear hb1 HF hB hbo HPk c1 c2 h1 h2
      rcases hc with ⟨hp, rfl⟩ | ⟨hp, rfl⟩
      · have HP := Lib.hid hp
        clear hp
        go_wp2
        go_ret
        exact ⟨⟨(k : Int), rfl, by omega, ⟨fun _ => ⟨k, hlt, HP.out⟩, fun _ => by omega⟩⟩, HB1.out⟩
      · have HN2 : Hid (∀ j, j < k + 1 → ¬ (¬ vlOk (vlC cs j))) := Lib.hid (fun j hj => by
          by_cases e : j = k
          · rw [e]; exact hp
          · exact hN.out j (by omega))
        clear hp hN
        go_wp2
        go_roundw
        case rel => exact ⟨k + 1, by omega, by go_num, HB1, HN2⟩
        case measure => simp [intOf]; omega
    · obtain rfl : k = L := by omega
      go_wp2
      go_ret
      exact ⟨⟨-1, rfl, by omega, ⟨fun h => by omega, fun ⟨i, hi, hp⟩ => absurd hp (hN.out i hi)⟩⟩, hB.out⟩
set_option maxRecDepth 10000 in
theorem containsV_any (cs : List Crd) (a : Option Addr) (cap : Nat) (hn : cs.length ≤ 9223372036854775807) (w : World) (h : CRow w a cs) :
    Calls Tryz.prog 20 #[.slice a cs.length cap, .func (.func 21) #[] #[]] w fun e w' => BoolIs (∃ i, i < cs.length ∧ ¬ vlOk (vlC cs i)) e ∧ Below w.heap.size w w' := by
  have HI := Lib.hid (indexV_any cs a cap hn w h)
  clear h
  generalize (∃ i, i < cs.length ∧ ¬ vlOk (vlC cs i)) = P at *
  generalize cs.length = L at *
  go_enter Tryz.func20, Tryz.ntmps20
  go_wp2_with fail
  refine HI.out.mono ?_; rintro e w1 ⟨⟨r, rfl, hr, hi⟩, hb⟩
  have HB := Lib.hid hb
  by_cases c : 0 ≤ r
  · have HP := Lib.hid (BoolIs.t (hi.1 c))
    have d : decide (0 ≤ r) = true := decide_eq_true c
    clear hi hb HI
    go_wp2
    go_ret
    exact ⟨HP.out, HB.out⟩
  · have HP := Lib.hid (BoolIs.f (fun h => c (hi.2 h)))
    have d : decide (0 ≤ r) = false := decide_eq_false c
    clear hi hb HI
    go_wp2
    go_ret
    exact ⟨HP.out, HB.out⟩
set_option maxRecDepth 10000 in
set_option maxHeartbeats 2000000 in
theorem indexN_any (cs : List Crd) (a : Option Addr) (cap : Nat) (nm : List UInt8) (q : Nat) (hn : cs.length ≤ 9223372036854775807) (w : World) (h : CRow w a cs) (hq : w.cell? ⟨q, 0, none⟩ = some (.string (bs nm))) :
    Calls Tryz.prog 42 #[.slice a cs.length cap, .func (.func 18) #[] #[.pointer (some ⟨q, 0, none⟩)]] w fun e w' => (∃ r : Int, e = .returned (.int .i64 r) ∧ -1 ≤ r ∧ (0 ≤ r ↔ ∃ i, i < cs.length ∧ nmC cs i = nm)) ∧ Below w.heap.size w w' := by
  have HA := Lib.hid (fun i (hi : i < cs.length) W' (hb : Below w.heap.size w W') => (h.below hb).at hi)
  have hql := cell_lt hq
  have HQ : Hid (∀ W', Below w.heap.size w W' → W'.cell? ⟨q, 0, none⟩ = some (.string (bs nm))) := Lib.hid (fun W' hb => by rw [hb.cell (p := ⟨q, 0, none⟩) hql]; exact hq)
  clear hq
  clear h
  obtain ⟨L, hL⟩ : ∃ L, cs.length = L := ⟨_, rfl⟩
  rw [hL] at hn HA ⊢
  clear hL
  go_enter Tryz.func42, Tryz.ntmps42
  go_wp2
  go_loopw [8] (fun i wr => ∃ k : Nat, k ≤ L ∧ i = .int .i64 k ∧ Hid (Below w.heap.size w wr) ∧ Hid (∀ j, j < k → ¬ (nmC cs j = nm))) (fun i _ => L - (intOf i).toNat)
  case atStart => exact ⟨0, Nat.zero_le _, rfl, Lib.hid (Below.refl _ _), Lib.hid (fun j hj => absurd hj (Nat.not_lt_zero _))⟩
  case round =>
    obtain ⟨k, hk, rfl, hB, hN⟩ := hrel
    by_cases hlt : k < L
    · obtain ⟨b, o, rfl, _, ⟨c1, c2⟩, h1, h2⟩ := HA.out k hlt wr hB.out
      have HF := Lib.hid (sameName_any (nmC cs k, vlC cs k) nm q wr (HQ.out wr hB.out))
      unfold aggC at HF
      simp only at HF
      have HPk : Hid (∀ e, BoolIs (nmC cs k = nm) e → (nmC cs k = nm ∧ e = .returned (.bool true)) ∨ (¬ (nmC cs k = nm) ∧ e = .returned (.bool false))) := Lib.hid (fun e h => h.cases)
      generalize bs (nmC cs k) = s at *
      generalize bs (vlC cs k) = t at *
      go_wp2_with fail
      refine HF.out.mono ?_; rintro e w1 ⟨hbo, hb1⟩
      have HB1 := Lib.hid (below_step hB.out hb1)
      have hc := HPk.out e hbo
      clear hb1 HF hB hbo HPk c1 c2 h1 h2
      rcases hc with ⟨hp, rfl⟩ | ⟨hp, rfl⟩
      · have HP := Lib.hid hp
        clear hp
        go_wp2
        go_ret
        exact ⟨⟨(k : Int), rfl, by omega, ⟨fun _ => ⟨k, hlt, HP.out⟩, fun _ => by omega⟩⟩, HB1.out⟩
      · have HN2 : Hid (∀ j, j < k + 1 → ¬ (nmC cs j = nm)) := Lib.hid (fun j hj => by
          by_cases e : j = k
          · rw [e]; exact hp
          · exact hN.out j (by omega))
        clear hp hN
        go_wp2
        go_roundw
        case rel => exact ⟨k + 1, by omega, by go_num, HB1, HN2⟩
        case measure => simp [intOf]; omega
    · obtain rfl : k = L := by omega
      go_wp2
      go_ret
      exact ⟨⟨-1, rfl, by omega, ⟨fun h => by omega, fun ⟨i, hi, hp⟩ => absurd hp (hN.out i hi)⟩⟩, hB.out⟩
set_option maxRecDepth 10000 in
theorem containsN_any (cs : List Crd) (a : Option Addr) (cap : Nat) (nm : List UInt8) (q : Nat) (hn : cs.length ≤ 9223372036854775807) (w : World) (h : CRow w a cs) (hq : w.cell? ⟨q, 0, none⟩ = some (.string (bs nm))) :
    Calls Tryz.prog 20 #[.slice a cs.length cap, .func (.func 18) #[] #[.pointer (some ⟨q, 0, none⟩)]] w fun e w' => BoolIs (∃ i, i < cs.length ∧ nmC cs i = nm) e ∧ Below w.heap.size w w' := by
  have HI := Lib.hid (indexN_any cs a cap nm q hn w h hq)
  clear h
  generalize (∃ i, i < cs.length ∧ nmC cs i = nm) = P at *
  generalize cs.length = L at *
  go_enter Tryz.func20, Tryz.ntmps20
  go_wp2_with fail
  refine HI.out.mono ?_; rintro e w1 ⟨⟨r, rfl, hr, hi⟩, hb⟩
  have HB := Lib.hid hb
  by_cases c : 0 ≤ r
  · have HP := Lib.hid (BoolIs.t (hi.1 c))
    have d : decide (0 ≤ r) = true := decide_eq_true c
    clear hi hb HI
    go_wp2
    go_ret
    exact ⟨HP.out, HB.out⟩
  · have HP := Lib.hid (BoolIs.f (fun h => c (hi.2 h)))
    have d : decide (0 ≤ r) = false := decide_eq_false c
    clear hi hb HI
    go_wp2
    go_ret
    exact ⟨HP.out, HB.out⟩
end Go.Proofs.YtjcmpkkflboaoaaGreatDoor
