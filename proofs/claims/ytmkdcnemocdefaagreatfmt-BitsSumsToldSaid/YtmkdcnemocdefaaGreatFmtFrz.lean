/- SetFloat64 of a fresh Float. -/
import Derived.Test.YtmkdcnemocdefaaGreatFmtFry
import Derived.Test.YtmkdcnemocdefaaGreatFmtFlo1
import Derived.Deep.CutBlock
import Derived.Deep.DeepCutAuto
namespace Go.Proofs.YtmkdcnemocdefaaGreatFmt
open Go.RowKit Ieee

theorem frexpF_any (b : Nat) (h : b < 18446744073709551616) (hf : fieldW b < 2047) (h0 : unitsW b ≠ 0) (w : World) :
    Calls Tryz.prog 38 #[.float .f64 b] w fun e w' => e = .returned (.tuple #[.float .f64 (fracOf (nrmW b)), .int .i64 ((exW b : Int) - 1074)]) ∧ w' = w := by
  have HF := Lib.hid (fun W => frexp_any b h hf h0 W)
  go_enter Tryz.func38, Tryz.ntmps38
  go_wp2_with fail
  refine (HF.out _).mono ?_; rintro e w1 ⟨rfl, rfl⟩
  go_wp2
  go_ret2
  exact ⟨rfl, rfl⟩
/-- The mantissa's word, as SetFloat64 reckons it. -/
theorem mant_word {b : Nat} (h : b < 18446744073709551616) (hf : fieldW b < 2047) (h0 : unitsW b ≠ 0) :
    IntKind.u64.wrap ((fracOf (nrmW b) : Int) * 2048) = ((fracW (nrmW b) * 2048 : Nat) : Int) ∧ bits .or .u64 9223372036854775808 ((fracW (nrmW b) * 2048 : Nat) : Int) = (normW b : Int) := by
  have ⟨_, _, _, p4, _⟩ := nrm_parts h hf h0
  have f1 : fracW (nrmW b) < 4503599627370496 := Nat.mod_lt _ (by decide)
  constructor
  · rw [IntKind.wrap_u64]
    unfold fracOf
    split <;> omega
  · have r := u64_or_nat 9223372036854775808 (fracW (nrmW b) * 2048) (by decide) (by omega)
    refine Eq.trans r ?_
    have k := or_split 1 (fracW (nrmW b) * 2048) 63 (by omega)
    rw [show 1 * 2 ^ 63 = 9223372036854775808 by decide] at k
    rw [k, p4]
/-- Nothing but block p has turned of what was there. -/
def Fr1 (w w' : World) (p : Nat) : Prop := (∀ k, k < w.heap.size → k ≠ p → w'.heap[k]? = w.heap[k]?) ∧ w.heap.size ≤ w'.heap.size ∧ (∀ B, B ≤ p → B ≤ w.heap.size → Below B w w')
theorem Fr1.refl (w : World) (p : Nat) : Fr1 w w p := ⟨fun _ _ _ => rfl, Nat.le_refl _, fun _ _ _ => Below.refl _ _⟩
theorem Fr1.set {w w1 : World} {p : Nat} (h : Fr1 w w1 p) (i : Nat) (v : Value) : Fr1 w (w1.setCell ⟨p, i, none⟩ v) p :=
  ⟨fun k hk h1 => by rw [heap_set_far h1]; exact h.1 k hk h1, by rw [World.size_setCell]; exact h.2.1, fun B h1 h3 => (h.2.2 B h1 h3).setCell h1 _⟩
theorem Fr1.drewN {w w1 : World} {p : Nat} (h : Fr1 w w1 p) (n : Nat) : Fr1 w (w1.drewN n) p :=
  ⟨fun k hk h1 => by rw [heap_drewN]; exact h.1 k hk h1, by rw [heap_drewN]; exact h.2.1, fun B h1 h3 => below_drewN (h.2.2 B h1 h3) n⟩
theorem Fr1.below {w w1 w2 : World} {p : Nat} (h : Fr1 w w1 p) (k : Below w1.heap.size w1 w2) : Fr1 w w2 p :=
  ⟨fun i hi h1 => (k.block i (Nat.lt_of_lt_of_le hi h.2.1)).trans (h.1 i hi h1), Nat.le_trans h.2.1 k.size, fun B h1 h3 => (h.2.2 B h1 h3).trans (k.mono (Nat.le_trans h3 h.2.1))⟩

set_option maxRecDepth 20000 in
theorem setFloat_zero (p b : Nat) (h : b < 18446744073709551616) (hf : fieldW b < 2047) (h0 : unitsW b = 0) (w : World) (hp : Flt w p 0 0 0 false (.slice none 0 0) 0) :
    Calls Tryz.prog 10 #[.pointer (some ⟨p, 0, none⟩), .float .f64 b] w fun e w' => e = .returned (.pointer (some ⟨p, 0, none⟩)) ∧ Flt w' p 53 0 0 (sgnW b) (.slice none 0 0) 0 ∧ Fr1 w w' p := by
  have HN := Lib.hid (fun W => isNaN_fin b (Or.inl hf) W)
  have HS := Lib.hid (fun W => signbit_any b h W)
  have hz := f_eq (b := b) (c := 0) hf (by decide +kernel)
  rw [numW_zero, decide_eq_true (by rw [numW_eq_zero]; exact h0)] at hz
  have c0 := hp.c0
  have c2 := hp.c2
  have c3 := hp.c3
  have c4 := hp.c4
  have f0 := hp.fr 0
  have f2 := hp.fr 2
  have f3 := hp.fr 3
  have f4 := hp.fr 4
  have HP := Lib.hid ((((hp.s0 53).s2 0).s4 (sgnW b)).s3 0)
  have HFr := Lib.hid (((((Fr1.refl w p).set 0 (.int .u32 ((53 : Nat) : Int))).set 2 (.int .i8 0)).set 4 (.bool (sgnW b))).set 3 (.int .u8 ((0 : Nat) : Int)))
  clear hp h h0 hf
  go_enter Tryz.func10, Tryz.ntmps10
  go_wp2_with fail
  refine (HN.out _).mono ?_; rintro e w1 ⟨rfl, rfl⟩
  go_wp2_with fail
  refine (HS.out _).mono ?_; rintro e w1 ⟨rfl, rfl⟩
  go_wp2
  go_ret
  exact ⟨rfl, HP.out, HFr.out⟩
set_option maxRecDepth 20000 in
set_option maxHeartbeats 2000000 in
theorem setFloat_fin (p b : Nat) (h : b < 18446744073709551616) (hf : fieldW b < 2047) (h0 : unitsW b ≠ 0) (w : World) (hp : Flt w p 0 0 0 false (.slice none 0 0) 0) :
    Calls Tryz.prog 10 #[.pointer (some ⟨p, 0, none⟩), .float .f64 b] w fun e w' => e = .returned (.pointer (some ⟨p, 0, none⟩)) ∧ ∃ gy, Flt w' p 53 0 1 (sgnW b) (.slice (some ⟨gy, 0, none⟩) 1 1) ((exW b : Int) - 1074) ∧ Blk w' gy 1 (fun _ => normW b) ∧ w.heap.size ≤ gy ∧ Fr1 w w' p := by
  have HN := Lib.hid (fun W => isNaN_fin b (Or.inl hf) W)
  have HS := Lib.hid (fun W => signbit_any b h W)
  have HI := Lib.hid (fun W => isInf_0 b h hf W)
  have HFx := Lib.hid (fun W => frexpF_any b h hf h0 W)
  have hz := f_eq (b := b) (c := 0) hf (by decide +kernel)
  rw [numW_zero, decide_eq_false (by rw [numW_eq_zero]; exact h0)] at hz
  have ⟨e1, e2⟩ := mant_word h hf h0
  have hn := normW_lo b h0
  have hx := exW_lt b hf h0
  have h32 := @run_callFunc_extern Tryz.prog 17 _ Extern.MathFloatBits.float64bits Tryz.func17 (by kernel_rfl) (by kernel_rfl) (by kernel_rfl) (by kernel_rfl)
  have HU := Lib.hid (fun W => setUint64_nil (normW b) (by omega) W)
  have hX : -1074 ≤ (exW b : Int) - 1074 ∧ (exW b : Int) - 1074 ≤ 1024 := by omega
  have c0 := hp.c0
  have c2 := hp.c2
  have c3 := hp.c3
  have c4 := hp.c4
  have c5 := hp.c5
  have c6 := hp.c6
  have f0 := hp.fr 0
  have f2 := hp.fr 2
  have f3 := hp.fr 3
  have f4 := hp.fr 4
  have f5 := hp.fr 5
  have f6 := hp.fr 6
  have HP : Hid (Flt ((((w.setCell ⟨p, 0, none⟩ (.int .u32 53)).setCell ⟨p, 2, none⟩ (.int .i8 0)).setCell ⟨p, 4, none⟩ (.bool (sgnW b))).setCell ⟨p, 3, none⟩ (.int .u8 1)) p 53 0 1 (sgnW b) (.slice none 0 0) 0) := Lib.hid ((((hp.s0 53).s2 0).s4 (sgnW b)).s3 1)
  have HFr : Hid (Fr1 w ((((w.setCell ⟨p, 0, none⟩ (.int .u32 53)).setCell ⟨p, 2, none⟩ (.int .i8 0)).setCell ⟨p, 4, none⟩ (.bool (sgnW b))).setCell ⟨p, 3, none⟩ (.int .u8 1)) p) := Lib.hid (((((Fr1.refl w p).set 0 (.int .u32 53)).set 2 (.int .i8 0)).set 4 (.bool (sgnW b))).set 3 (.int .u8 1))
  generalize fracOf (nrmW b) = Q at *
  generalize fracW (nrmW b) * 2048 = R at *
  generalize normW b = NW at *
  generalize (exW b : Int) - 1074 = X at *
  clear hp h h0 hf hx
  go_enter Tryz.func10, Tryz.ntmps10
  go_wp2_with fail
  refine (HN.out _).mono ?_; rintro e w1 ⟨rfl, rfl⟩
  go_wp2_with fail
  refine (HS.out _).mono ?_; rintro e w1 ⟨rfl, rfl⟩
  go_wp2_with fail
  refine (HI.out _).mono ?_; rintro e w1 ⟨rfl, rfl⟩
  go_wp2_with fail
  refine (HFx.out _).mono ?_; rintro e w1 ⟨rfl, rfl⟩
  generalize (((w.setCell ⟨p, 0, none⟩ (.int .u32 53)).setCell ⟨p, 2, none⟩ (.int .i8 0)).setCell ⟨p, 4, none⟩ (.bool (sgnW b))).setCell ⟨p, 3, none⟩ (.int .u8 1) = W1 at *
  have q0 := HP.out.c0
  have q5 := HP.out.c5
  have q6 := HP.out.c6
  have r5 := HP.out.fr 5
  have r6 := HP.out.fr 6
  have lp := HP.out.lt
  clear c0 c2 c3 c4 c5 c6 f0 f2 f3 f4 f5 f6
  go_wp2_with fail
  go_region_with (go_at_call 39; refine (HU.out _).mono ?_; rintro e w2 ⟨rfl, hb, hB, hsz⟩; have d0 := (hB.cell (p := ⟨p, 0, none⟩) lp).trans q0; have d5 := (hB.cell (p := ⟨p, 5, none⟩) lp).trans q5; have d6 := (hB.cell (p := ⟨p, 6, none⟩) lp).trans q6; have g5 := (hB.frozen (p := ⟨p, 5, none⟩) lp).trans r5; have g6 := (hB.frozen (p := ⟨p, 6, none⟩) lp).trans r6)
  all_goals
    have HB := Lib.hid hB
    have HBk := Lib.hid hb
    clear hB hb
    go_wp2
    go_ret
    have hne : p ≠ W1.drew.heap.size := by show p ≠ W1.heap.size; omega
    refine ⟨rfl, W1.drew.heap.size, ((HP.out.drewN 1).of_eq (HB.out.block p lp)).s5 _ |>.s6 X, (HBk.out.of_eq (heap_set_far (Ne.symm hne) _ _)).of_eq (heap_set_far (Ne.symm hne) _ _), HFr.out.2.1, (((HFr.out.drewN 1).below HB.out).set _ _).set _ _⟩
end Go.Proofs.YtmkdcnemocdefaaGreatFmt
