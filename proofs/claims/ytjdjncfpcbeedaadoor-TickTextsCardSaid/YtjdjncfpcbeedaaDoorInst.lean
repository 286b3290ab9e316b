/- Instants of stamps: what tick.Instant computes. -/
import Derived.Test.YtjdjncfpcbeedaaDoorTab
namespace Go.Proofs.YtjdjncfpcbeedaaDoor
open Go.RowKit

theorem valid_zero (a : Option Addr) (cap : Nat) (w : World) :
    Calls Tryd.prog 55 #[.slice a 0 cap] w fun e w' => e = .returned .nilIface ∧ Below w.heap.size w w' := by
  go_enter Tryd.func55, Tryd.ntmps55
  go_wp2
  refine wp_loop_rounds 1 ?_
  rw [rounds_succ]
  go_wp2
  go_ret
  exact ⟨rfl, Below.refl _ _⟩

theorem valid_any (ad : Nat → Addr) (D A : Nat → Int) (a : Option Addr) (len cap : Nat) (w : World) (he : Errs w ad [1, 2, 3]) (h : Tab w a len D A) :
    Calls Tryd.prog 55 #[.slice a len cap] w fun e w' => (∃ v, e = .returned v ∧ ValidR ad D A len v) ∧ Below w.heap.size w w' := by
  by_cases h0 : len = 0
  · subst h0
    exact (valid_zero a cap w).mono fun e w' ⟨h1, h2⟩ => ⟨⟨_, h1, Or.inr (Or.inr ⟨by omega, fun i hi => absurd hi (Nat.not_lt_zero _), rfl⟩)⟩, h2⟩
  · by_cases hl : 60 < len
    · exact (valid_long ad a len cap hl w he).mono fun e w' ⟨h1, h2⟩ => ⟨⟨_, h1, Or.inl ⟨hl, rfl⟩⟩, h2⟩
    · rcases h with h | ⟨b, off, rfl, hc⟩
      · exact absurd h h0
      · exact valid_short ad D A b off len cap (by omega) w he hc

/-- The table is right. -/
def goodT (D A : Nat → Int) (len : Nat) : Prop := len ≤ 60 ∧ rowsOk D A len
theorem goodT_small {D A : Nat → Int} {len : Nat} (h : goodT D A len) : Small A len := fun j hj => ⟨(h.2 j hj).2.2.1, (h.2 j hj).2.2.2.1⟩
theorem valid_good (ad : Nat → Addr) (D A : Nat → Int) (a : Option Addr) (len cap : Nat) (w : World) (he : Errs w ad [1, 2, 3]) (h : Tab w a len D A) (g : goodT D A len) :
    Calls Tryd.prog 55 #[.slice a len cap] w fun e w' => e = .returned .nilIface ∧ Below w.heap.size w w' := by
  refine (valid_any ad D A a len cap w he h).mono ?_
  rintro e w' ⟨⟨v, rfl, hv⟩, hb⟩
  refine ⟨?_, hb⟩
  rcases hv with ⟨h1, _⟩ | ⟨_, h2, _⟩ | ⟨_, _, h3⟩
  · exact absurd h1 (by have := g.1; omega)
  · exact absurd g.2 h2
  · rw [h3]
/-- What Valid answers of a table that is not right. -/
def badA (ad : Nat → Addr) (len : Nat) : Addr := ad (if 60 < len then 1 else 3)
def badV (ad : Nat → Addr) (len : Nat) : Value := .iface 225 (.pointer (some (badA ad len)))
theorem valid_bad (ad : Nat → Addr) (D A : Nat → Int) (a : Option Addr) (len cap : Nat) (w : World) (he : Errs w ad [1, 2, 3]) (h : Tab w a len D A) (g : ¬ goodT D A len) :
    Calls Tryd.prog 55 #[.slice a len cap] w fun e w' => e = .returned (badV ad len) ∧ Below w.heap.size w w' := by
  refine (valid_any ad D A a len cap w he h).mono ?_
  rintro e w' ⟨⟨v, rfl, hv⟩, hb⟩
  refine ⟨?_, hb⟩
  unfold badV badA
  rcases hv with ⟨h1, h2⟩ | ⟨h1, h2, h3⟩ | ⟨h1, h2, h3⟩
  · rw [if_pos h1, h2]; rfl
  · rw [if_neg (by omega), h3]; rfl
  · exact absurd ⟨h1, h2⟩ g

theorem instant_bad (ad : Nat → Addr) (D A : Nat → Int) (a : Option Addr) (len cap : Nat) (day micro : Int) (w : World) (he : Errs w ad [1, 2, 3]) (h : Tab w a len D A) (g : ¬ goodT D A len) :
    Calls Tryd.prog 49 #[.slice a len cap, .agg #[.int .i64 day, .int .i64 micro]] w fun e w' => e = .returned (.tuple #[.int .i64 0, badV ad len]) ∧ Below w.heap.size w w' := by
  have hb0 : ∀ o, Below w.heap.size w (w.alloc o) := fun o => (Below.refl _ _).alloc (Nat.le_refl _) _
  have V := fun o => valid_bad ad D A a len cap (w.alloc o) (he.below (hb0 o)) (h.below (hb0 o)) g
  have HV := Lib.hid V
  clear V
  unfold badV at *
  go_enter Tryd.func49, Tryd.ntmps49
  go_wp2_with fail
  refine (HV.out _).mono ?_; rintro e w1 ⟨rfl, hb1⟩
  go_wp2
  go_ret2
  exact ⟨rfl, below_step (hb0 _) hb1⟩

theorem wrap_small {x : Int} (h1 : -9223372036854775808 ≤ x) (h2 : x ≤ 9223372036854775807) : IntKind.i64.wrap x = x := by simp only [IntKind.wrap, IntKind.bits, IntKind.signed]; (try simp); (try split) <;> omega
def instF (D A : Nat → Int) (len : Nat) (day micro : Int) : Int := startF D A len day + micro
def instOk (D A : Nat → Int) (len : Nat) (day micro : Int) : Prop := -4000000 ≤ day ∧ day ≤ 4000000 ∧ 0 ≤ micro ∧ micro < lengthF D A len day ∧ goodB (instF D A len day micro) = true

set_option maxHeartbeats 1000000 in
theorem instant_ok (ad : Nat → Addr) (D A : Nat → Int) (a : Option Addr) (len cap : Nat) (day micro : Int) (w : World) (he : Errs w ad [1, 2, 3]) (h : Tab w a len D A) (g : goodT D A len) (hi : instOk D A len day micro) :
    Calls Tryd.prog 49 #[.slice a len cap, .agg #[.int .i64 day, .int .i64 micro]] w fun e w' => e = .returned (.tuple #[.int .i64 (instF D A len day micro), .nilIface]) ∧ Below w.heap.size w w' := by
  have hb0 : ∀ o, Below w.heap.size w (w.alloc o) := fun o => (Below.refl _ _).alloc (Nat.le_refl _) _
  have V := fun o => valid_good ad D A a len cap (w.alloc o) (he.below (hb0 o)) (h.below (hb0 o)) g
  have HV := Lib.hid V
  have hsm := goodT_small g
  have hl : len ≤ 1000000 := by have := g.1; omega
  obtain ⟨i1, i2, i3, i4, i5⟩ := hi
  have o1 := ofTo_bd (D := D) (day := day) hsm
  have o2 := ofTo_bd (D := D) (day := day + 1) hsm
  have d1 : decide (4000000 < day) = false := by simp; omega
  have d2 : decide (day < -4000000) = false := by simp; omega
  have d3 : decide (micro < 0) = false := by simp; omega
  have hlen : lengthF D A len day ≤ 88400000000 := by unfold lengthF; omega
  have hst : -400000000000000000 ≤ startF D A len day ∧ startF D A len day ≤ 400000000000000000 := by unfold startF; omega
  have d4 : decide (lengthF D A len day ≤ micro) = false := by simp; omega
  have e5 := Lib.hid (show startF D A len day + micro = instF D A len day micro from rfl)
  have L := fun W (hT : Tab W a len D A) => length_any D A day a len cap hl (by omega) (by omega) hsm W hT
  have S := fun W (hT : Tab W a len D A) => start_any D A day a len cap hl (by omega) (by omega) hsm W hT
  have HL := Lib.hid L
  have HS := Lib.hid S
  have HT := Lib.hid h
  clear V L S h he g hsm
  go_enter Tryd.func49, Tryd.ntmps49
  go_wp2_with fail
  refine (HV.out _).mono ?_; rintro e w1 ⟨rfl, hb1⟩
  have q0 : w1.cell? ⟨w.heap.size, 0, none⟩ = some (.int .i64 day) := by rw [hb1.cell (p := ⟨w.heap.size, 0, none⟩) (by simp)]; simp
  have q1 : w1.cell? ⟨w.heap.size, 1, none⟩ = some (.int .i64 micro) := by rw [hb1.cell (p := ⟨w.heap.size, 1, none⟩) (by simp)]; simp
  have hT1 : Tab w1 a len D A := (HT.out.below (hb0 _)).below hb1
  have hw1 := hb1.size
  have hbw := below_step (hb0 _) hb1
  have HB := Lib.hid hbw
  have HT1 := Lib.hid hT1
  clear hbw hb1 hT1 hb0 HV HT
  go_wp2
  simp only [World.size_alloc] at hw1
  go_region_held3 (fun w' => w'.cell? ⟨w.heap.size, 0, none⟩ = some (.int .i64 day) ∧ w'.cell? ⟨w.heap.size, 1, none⟩ = some (.int .i64 micro))
    (first | go_keep | (exact ⟨by rw [hb2.cell (p := ⟨w.heap.size, 0, none⟩) (by simp; omega)]; simpa using q0, by rw [hb2.cell (p := ⟨w.heap.size, 1, none⟩) (by simp; omega)]; simpa using q1⟩))
    (first | (go_at_call 78; refine (HL.out _ (HT1.out.below (by go_grown))).mono ?_; rintro e w2 ⟨rfl, hb2⟩))
  rename_i hHeld
  obtain ⟨k0, k1⟩ := hHeld
  have hb12 : Below w1.heap.size w1 w2 := below_step (below_drewN (Below.refl _ _) 1) hb2
  have hw2 := hb12.size
  have HT2 := Lib.hid (HT1.out.below hb12)
  have HB2 := Lib.hid (below_step HB.out hb12)
  clear hb2 hb12 q0 q1 HT1 HB HL
  go_wp2
  go_region_held3 (fun w' => w'.cell? ⟨w.heap.size, 0, none⟩ = some (.int .i64 day) ∧ w'.cell? ⟨w.heap.size, 1, none⟩ = some (.int .i64 micro))
    (first | go_keep | (exact ⟨by rw [hb3.cell (p := ⟨w.heap.size, 0, none⟩) (by simp; omega)]; simpa using k0, by rw [hb3.cell (p := ⟨w.heap.size, 1, none⟩) (by simp; omega)]; simpa using k1⟩))
    (first | (go_at_call 77; refine (HS.out _ (HT2.out.below (by go_grown))).mono ?_; rintro e w3 ⟨rfl, hb3⟩))
  clear k0 k1
  have hb23 : Below w2.heap.size w2 w3 := below_step (below_drewN (Below.refl _ _) 1) hb3
  have HB3 := Lib.hid (below_step HB2.out hb23)
  clear hb3 hb23 HB2 HT2 HS
  rw [e5.out, wrap_small (by unfold instF; omega) (by unfold instF; omega)]
  go_wp2_with fail
  refine (good_any _ _).mono ?_; rintro e w4 ⟨rfl, rfl⟩
  rw [i5]
  go_wp2
  go_ret2
  exact ⟨rfl, HB3.out⟩
end Go.Proofs.YtjdjncfpcbeedaaDoor
