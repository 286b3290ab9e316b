/- What light's angle answers: the angle of a unit of time, times the time, within one turn. -/
import Derived.Test.YtbafddlkeocpeaaGreatDoorBgR
import Derived.Test.YtbafddlkeocpeaaGreatDoorPwP
namespace Go.Proofs.YtbafddlkeocpeaaGreatDoor
open Go.RowKit

theorem Int1.weak {w : World} {B B' p : Nat} {x : Int} (h : Int1 w B p x) (hB : B' ≤ B) : Int1 w B' p x := by
  obtain ⟨h1, ⟨e, h4⟩ | ⟨e, g, h5, h7, h8, h9⟩⟩ := h
  · exact ⟨by omega, Or.inl ⟨e, h4⟩⟩
  · exact ⟨by omega, Or.inr ⟨e, g, by omega, h7, h8, h9⟩⟩
theorem modV_ang (x t : Int) (hx : 0 ≤ x) : ((modV (decide (t < 0)) (x.natAbs * t.natAbs) : Nat) : Int) = (x * t) % 1296000000000 := by
  obtain ⟨n, rfl⟩ := Int.eq_ofNat_of_zero_le hx
  by_cases ht : t < 0
  · obtain ⟨m, rfl⟩ : ∃ m : Nat, t = -(m : Int) := ⟨t.natAbs, by omega⟩
    rw [Int.natAbs_neg, Int.natAbs_natCast, Int.natAbs_natCast, Int.mul_neg, ← Int.natCast_mul, show decide (-(m : Int) < 0) = true by simpa using ht]
    generalize n * m = P
    unfold modV
    simp only [if_true]
    split <;> omega
  · obtain ⟨m, rfl⟩ := Int.eq_ofNat_of_zero_le (by omega : 0 ≤ t)
    rw [Int.natAbs_natCast, Int.natAbs_natCast, ← Int.natCast_mul, show decide ((m : Int) < 0) = false by simp]
    generalize n * m = P
    unfold modV
    simp only [Bool.false_eq_true, if_false]
    split <;> omega
theorem modV_lt (neg : Bool) (P : Nat) : modV neg P < 1296000000000 := by
  unfold modV
  split
  · omega
  · split <;> omega
/-- The product, in the variable that it was asked for. -/
theorem intMul_any (B p px py : Nat) (x y : Int) (hx : 0 ≤ x) (hx2 : x ≤ 9223372036854775807) (hy2 : In64 y) (w : World) (hB : B ≤ w.heap.size) (hp : B ≤ p)
    (X : Int1 w B px x) (Y : Int1 w B py y) (hpx : p ≠ px) (hpy : p ≠ py) (hxy : px ≠ py) (p0 : w.heap[p]? = some (.cells #[.bool false, .slice none 0 0] 52)) :
    Calls Tryz.prog 21 #[.pointer (some ⟨p, 0, none⟩), .pointer (some ⟨px, 0, none⟩), .pointer (some ⟨py, 0, none⟩)] w fun e w' =>
      e = .returned (.pointer (some ⟨p, 0, none⟩)) ∧ Prd w' B p (decide (y < 0)) (x.natAbs * y.natAbs) ∧ Below B w w' := by
  have H : Hid (Calls Tryz.prog 39 #[.pointer (some ⟨p, 0, none⟩), .pointer none, .pointer (some ⟨px, 0, none⟩), .pointer (some ⟨py, 0, none⟩)] w fun e w' => e = .returned (.tuple #[]) ∧ Prd w' B p (decide (y < 0)) (x.natAbs * y.natAbs) ∧ Below B w w') := Lib.hid (by
    by_cases h0 : x = 0 ∨ y = 0
    · refine (intMul_0 B p px py x y h0 w hp X Y hpx hpy hxy p0).mono ?_
      rintro e w' ⟨h1, h2, h3⟩
      have e0 : x.natAbs * y.natAbs = 0 := by rcases h0 with rfl | rfl <;> simp
      rw [e0]
      refine ⟨h1, ?_, h3⟩
      rcases h2 with ⟨_, h⟩ | ⟨h, _⟩
      · exact Or.inl ⟨rfl, h⟩
      · exact absurd rfl h
    · exact intMul_11 B p px py x y (by omega) hx2 (by omega) hy2 w hB hp X Y hpx hpy hxy p0)
  clear X Y p0
  obtain ⟨Q, hQ⟩ : ∃ Q : World → Prop, Q = fun w' => Prd w' B p (decide (y < 0)) (x.natAbs * y.natAbs) ∧ Below B w w' := ⟨_, rfl⟩
  have H2 : Hid (Calls Tryz.prog 39 #[.pointer (some ⟨p, 0, none⟩), .pointer none, .pointer (some ⟨px, 0, none⟩), .pointer (some ⟨py, 0, none⟩)] w fun e w' => e = .returned (.tuple #[]) ∧ Q w') := by rw [hQ]; exact H
  show Calls _ _ _ _ fun e w' => e = _ ∧ (Prd w' B p (decide (y < 0)) (x.natAbs * y.natAbs) ∧ Below B w w')
  have hQ' : ∀ w', Q w' → (Prd w' B p (decide (y < 0)) (x.natAbs * y.natAbs) ∧ Below B w w') := fun w' h => by rw [hQ] at h; exact h
  refine Calls.mono (R := fun e w' => e = .returned (.pointer (some ⟨p, 0, none⟩)) ∧ Q w') ?_ (fun e w' h => ⟨h.1, hQ' w' h.2⟩)
  clear H hQ hQ'
  go_enter Tryz.func21, Tryz.ntmps21
  go_wp2_with fail
  refine H2.out.mono ?_; rintro e w1 ⟨rfl, hq⟩
  go_wp2
  go_ret
  exact ⟨rfl, hq⟩

set_option maxRecDepth 20000 in
theorem angle_any (a t : Int) (ha : In64 a) (ht : -1099511627776 ≤ t ∧ t ≤ 1099511627776) (w : World) :
    Calls Tryz.prog 12 #[.int .i64 a, .int .i64 t] w fun e w' => e = .returned (.int .i64 (angM a t)) ∧ Below w.heap.size w w' := by
  have hb := nrm_bd a
  have HN := Lib.hid (fun W => norm_any a W ha)
  have hM := modV_ang (nrm a) t hb.1
  obtain ⟨V, hV⟩ : ∃ V, V = modV (decide (t < 0)) ((nrm a).natAbs * t.natAbs) := ⟨_, rfl⟩
  have hlt := modV_lt (decide (t < 0)) ((nrm a).natAbs * t.natAbs)
  rw [← hV] at hM hlt
  have hA : angM a t = (V : Int) := by unfold angM; rw [hM]
  rw [hA]
  have HV := Lib.hid hV
  clear hV hM hA
  have hP2 : (nrm a).natAbs * t.natAbs / 18446744073709551616 < 1296000000000 := by
    have h1 : (nrm a).natAbs * t.natAbs ≤ 1296000000000 * 1099511627776 := Nat.mul_le_mul (by omega) (by omega)
    omega
  have HP2 := Lib.hid hP2
  clear hP2
  generalize nrm a = x at *
  have HX := Lib.hid (fun W => newInt_any x (by unfold In64; omega) W)
  have HY := Lib.hid (fun W => newInt_any t (by unfold In64; omega) W)
  have HT := Lib.hid (fun W => newInt_any 1296000000000 (by unfold In64; omega) W)
  have hIn : In64 t := by unfold In64; omega
  have HIn := Lib.hid hIn
  clear hIn
  go_enter Tryz.func12, Tryz.ntmps12
  go_wp2_with fail
  refine (HN.out _).mono ?_; rintro e w1 ⟨rfl, rfl⟩
  go_wp2_with fail
  refine (HX.out _).mono ?_; rintro e w1 ⟨px, rfl, X1, b1⟩
  have Z1 := Lib.hid (And.intro X1 b1)
  clear X1 b1
  go_wp2_with fail
  refine (HY.out _).mono ?_; rintro e w2 ⟨py, rfl, Y2, b2⟩
  have Z2 := Lib.hid (And.intro Y2 b2)
  clear Y2 b2
  go_wp2_with fail
  obtain ⟨X1, b1⟩ := Z1.out
  obtain ⟨Y2, b2⟩ := Z2.out
  have s1 := b1.size
  have s2 := b2.size
  have l1 := X1.lt
  have l2 := Y2.lt
  have k1 := X1.1
  have k2 := Y2.1
  have hws : (w.alloc qObj).heap.size = w.heap.size + 1 := by simp
  have b1' : Below (w.alloc qObj).heap.size (w.alloc qObj) w1 := b1
  rw [show (w.alloc (.cells #[.bool false, .slice none 0 0] 52)).heap.size = w.heap.size + 1 from hws] at k1 s1
  have p0 : w2.heap[w.heap.size]? = some (.cells #[.bool false, .slice none 0 0] 52) := by
    rw [b2.block _ (by omega), b1'.block _ (by rw [hws]; omega)]
    exact heap_new w _
  have M := Lib.hid (intMul_any w.heap.size w.heap.size px py x t hb.1 (by omega) HIn.out w2 (by omega) (Nat.le_refl _) ((X1.below b2).weak (by rw [show (w.alloc (.cells #[.bool false, .slice none 0 0] 52)).heap.size = w.heap.size + 1 from hws]; omega)) (Y2.weak (by omega)) (by omega) (by omega) (by omega) p0)
  have bw2 : Below w.heap.size w w2 := (((Below.refl w.heap.size w).alloc (Nat.le_refl _) qObj).trans (b1'.mono (by rw [hws]; omega))).trans (b2.mono (by omega))
  have BW2 := Lib.hid bw2
  clear X1 b1 Y2 b2 b1' p0 bw2 l1 l2 k1 k2 s1 hws Z1 Z2
  refine M.out.mono ?_; rintro e w3 ⟨rfl, hprd, b3⟩
  have P3 := Lib.hid hprd
  have B3 := Lib.hid (BW2.out.trans b3)
  have s3 := b3.size
  clear hprd b3 M BW2
  go_wp2_with fail
  refine (HT.out _).mono ?_; rintro e w4 ⟨pt, rfl, T4, b4⟩
  have l4 := T4.lt
  have lp3 : w.heap.size < w3.heap.size := by
    rcases P3.out with ⟨_, h⟩ | ⟨_, k, g, _, _, _, h, _⟩
    · exact heap_lt h
    · exact heap_lt h
  obtain ⟨k4, ⟨h0, _⟩ | ⟨_, gt, k5, k6, ot, ogt⟩⟩ := T4
  · omega
  rw [show decide ((1296000000000 : Int) < 0) = false by decide] at ot
  have s4 := b4.size
  have D : Hid (Calls Tryz.prog 24 #[.pointer (some ⟨w.heap.size, 0, none⟩), .pointer (some ⟨w.heap.size, 0, none⟩), .pointer (some ⟨pt, 0, none⟩)] w4 fun e w' =>
      e = .returned (.pointer (some ⟨w.heap.size, 0, none⟩)) ∧ Val w' w.heap.size V ∧ Below w.heap.size w4 w') := Lib.hid (by
    rcases P3.out with ⟨hP, op⟩ | ⟨hP, k, g, hk, hg1, hg2, op, og⟩
    · have h0 : V = 0 := by rw [HV.out, hP]; rfl
      rw [h0]
      exact mod_0 w.heap.size w.heap.size pt gt w4 (by omega) (by rw [b4.block _ lp3]; exact op) ot ogt (by omega) (Nat.le_refl _)
    · have lg := heap_lt og
      rw [HV.out]
      exact mod_n w.heap.size w.heap.size pt g gt k _ _ hP hk HP2.out w4 (by omega) (by rw [b4.block _ lp3]; exact op) ot ogt (by rw [b4.block _ lg]; exact og) (by omega) hg2 (by omega) (by omega) (by omega) (Nat.le_refl _) hg1)
  have B4 := Lib.hid (B3.out.trans (b4.mono (by omega)))
  clear ot ogt b4 k5 k6 k4 l4 lp3
  go_wp2_with fail
  refine D.out.mono ?_; rintro e w5 ⟨rfl, hv, b5⟩
  have V5 := Lib.hid (int64_val w.heap.size V hlt w5 hv)
  have B5 := Lib.hid (B4.out.trans b5)
  clear hv b5 D
  go_wp2_with fail
  refine V5.out.mono ?_; rintro e w6 ⟨rfl, rfl⟩
  go_wp2
  go_ret
  exact ⟨rfl, B5.out⟩
end Go.Proofs.YtbafddlkeocpeaaGreatDoor
