/- Float64 of a sum that is not nought. -/
import Derived.Test.YtmkdcnemocdefaaGreatFmtSet
import Derived.Test.YtmkdcnemocdefaaGreatFmtDbl0
namespace Go.Proofs.YtmkdcnemocdefaaGreatFmt
open Go.RowKit

/-- The sign's bit. -/
def sgnB (neg : Bool) : Nat := if neg then 9223372036854775808 else 0

theorem nor_word {S E' W : Nat} (h : finW W E' = rndW S) (hd : 53 ≤ E') (ho : E' < 2099) (hW : W < 18446744073709551616) (s : Nat) (hs : s = 0 ∨ s = 9223372036854775808) :
    bits .or .u64 (bits .or .u64 (s : Int) (((E' : Int) - 1074 - 1 + 1023) * 4503599627370496)) (bits .and .u64 ((W : Int) / 2048) 4503599627370495) = ((s + rndW S : Nat) : Int) := by
  have a := and_mant W hW
  rw [show (W : Int) / 2048 = ((W / 2048 : Nat) : Int) by omega, a]
  rw [show ((E' : Int) - 1074 - 1 + 1023) * 4503599627370496 = (((E' - 52) * 4503599627370496 : Nat) : Int) by omega]
  rw [or_word s (E' - 52) (W / 2048 % 4503599627370496) hs (by omega) (Nat.mod_lt _ (by decide)), ← h]
  unfold finW
  rw [if_neg (by omega), if_neg (by omega)]
  congr 1
  omega
theorem den_word {S E' W : Nat} (h : finW W E' = rndW S) (hd : E' < 53) (hW : W < 18446744073709551616) (s : Nat) (hs : s = 0 ∨ s = 9223372036854775808) :
    bits .or .u64 (bits .or .u64 (s : Int) 0) ((W : Int) / 2 ^ (64 - (1075 + ((E' : Int) - 1074 - 1))).toNat) = ((s + rndW S : Nat) : Int) := by
  have e : (64 - (1075 + ((E' : Int) - 1074 - 1))).toNat = 64 - E' := by omega
  have m : W / 2 ^ (64 - E') < 4503599627370496 := by
    rw [Nat.div_lt_iff_lt_mul (Nat.two_pow_pos _)]
    have p : (2 : Nat) ^ 12 ≤ 2 ^ (64 - E') := Nat.pow_le_pow_right (by decide) (by omega)
    have q := Nat.mul_le_mul_left 4503599627370496 p
    omega
  have r := or_word s 0 (W / 2 ^ (64 - E')) hs (by omega) m
  rw [e]
  have eW : (W : Int) / 2 ^ (64 - E') = ((W / 2 ^ (64 - E') : Nat) : Int) := by simp
  rw [eW, ← h]
  unfold finW
  rw [if_neg (by omega), if_pos hd]
  rw [Nat.zero_mul] at r
  refine Eq.trans r ?_
  rw [Nat.add_zero]

set_option maxRecDepth 20000 in
set_option maxHeartbeats 8000000 in
theorem float64_any (K b g n c A S : Nat) (acc : Int) (neg : Bool) (f : Nat → Nat) (w : World) (h : Flt w b 2400 acc 1 neg (.slice (some ⟨g, 0, none⟩) n c) ((A + 64 * n : Nat) - (K : Int) - 1074)) (hb : Blk w g c f) (hf : Wds f n) (hc : n ≤ c) (hn : n ≤ 38) (hM : Man K (num f n) n A S) (hE2 : A + 64 * n ≤ K + 2400) :
    Calls Tryz.prog 15 #[.pointer (some ⟨b, 0, none⟩)] w fun e w' => (∃ a : Int, e = .returned (.tuple #[.float .f64 (sgnB neg + rndW S), .int .i8 a])) ∧ Below w.heap.size w w' := by
  have t := hM.top
  have n1 := hM.pos.2.2
  have ht := top_ge n1 hf hM.lo
  obtain ⟨E, hE⟩ : ∃ E, A + 64 * n - K = E := ⟨_, rfl⟩
  have eE : ((A + 64 * n : Nat) : Int) - (K : Int) - 1074 = (E : Int) - 1074 := by omega
  rw [eE] at h
  have E1 : 1 ≤ E := by omega
  have E2 : E ≤ 2400 := by omega
  have HD := Lib.hid (fun W E1 => dbl_word (W := W) (E1 := E1) hM hE.symm)
  have HIp := Lib.hid (fun W => inf_pos W)
  have HIn := Lib.hid (fun W => inf_neg W)
  obtain ⟨p, hp⟩ : ∃ p, keepN E = p := ⟨_, rfl⟩
  have hp1 : 1 ≤ p := by rw [← hp]; unfold keepN; omega
  have hp2 : p ≤ 53 := by rw [← hp]; unfold keepN; omega
  have hlg := hb.lt
  have hlb := h.lt
  have HS : Hid (∀ W : World, (∀ k, k < w.heap.size → W.heap[k]? = w.heap[k]?) → w.heap.size < W.heap.size → Flt W w.heap.size p 0 0 false (.slice none 0 0) 0 → Calls Tryz.prog 36 #[.pointer (some ⟨w.heap.size, 0, none⟩), .pointer (some ⟨b, 0, none⟩)] W fun e w' => e = .returned (.pointer (some ⟨w.heap.size, 0, none⟩)) ∧ SetP W w' w.heap.size p neg (keptQ (num f n) (64 * n - p)) ((E : Int) - 1074)) := Lib.hid (fun W hW hs hF =>
    setP_any w.heap.size b p g n c acc _ neg f W hF (h.of_eq (hW b hlb)) (hb.of_eq (hW g hlg)) hf n1 hn hc ht (by omega) (by omega) hp1 hp2 (by omega))
  have c3 := h.c3
  have c4 := h.c4
  have c5 := h.c5
  have c6 := h.c6
  rw [hp] at HD
  clear h hb hf hM hE2 eE ht t hE
  have HW : Hid (∀ (a : Nat) (o : Obj), (∀ k, k < w.heap.size → ((w.drewN a).alloc o).heap[k]? = w.heap[k]?) ∧ w.heap.size < ((w.drewN a).alloc o).heap.size) := Lib.hid (fun a o => by
    refine ⟨fun k hk => ?_, ?_⟩
    · show ((w.drewN a).heap.push o)[k]? = _
      rw [heap_drewN, Array.getElem?_push_lt hk, Array.getElem?_eq_getElem hk]
    · show _ < ((w.drewN a).heap.push o).size
      rw [heap_drewN, Array.size_push]; omega)
  have HZ : Hid (∀ (a : Nat), Flt ((w.drewN a).alloc (.cells #[.int .u32 0, .int .u8 0, .int .i8 0, .int .u8 0, .bool false, .slice none 0 0, .int .i32 0] 36)) w.heap.size 0 0 0 false (.slice none 0 0) 0) := Lib.hid (fun a => by
    have k := heap_new (w.drewN a) (.cells #[.int .u32 0, .int .u8 0, .int .i8 0, .int .u8 0, .bool false, .slice none 0 0, .int .i32 0] 36)
    rw [heap_drewN] at k
    exact k)
  have HF0 : Hid (∀ (a : Nat), Flt ((w.drewN a).alloc (.cells #[.int .u32 (p : Int), .int .u8 0, .int .i8 0, .int .u8 0, .bool false, .slice none 0 0, .int .i32 0] 36)) w.heap.size p 0 0 false (.slice none 0 0) 0) := Lib.hid (fun a => by
    have k := heap_new (w.drewN a) (.cells #[.int .u32 (p : Int), .int .u8 0, .int .i8 0, .int .u8 0, .bool false, .slice none 0 0, .int .i32 0] 36)
    rw [heap_drewN] at k
    exact k)
  rcases Nat.lt_or_ge E 53 with hk | hk
  all_goals
    first
    | (have ep : p = E := by rw [← hp]; unfold keepN; omega
       clear hp
       subst ep
       have e5 : 1075 + ((p : Int) - 1074 - 1) = (p : Int) := by omega
       have s1 : ¬ ((p : Int) < 0) := by omega
       have s1b : decide ((p : Int) < 0) = false := decide_eq_false s1
       have s2 : ¬ ((p : Int) = 0) := by omega
       have s2b : ((p : Int) == 0) = false := beq_eq_false_iff_ne.2 s2
       go_enter Tryz.func15, Tryz.ntmps15
       go_wp2_with fail
       go_quiet (fail)
       rename Nat => m1
       have hz1 := (HZ.out m1).c0
       have hz2 := (HZ.out m1).fr 0
       go_wp2_with fail
       have HBW := Lib.hid (((below_drewN (Below.refl w.heap.size w) m1).alloc (by rw [heap_drewN]; omega) (.cells #[.int .u32 0, .int .u8 0, .int .i8 0, .int .u8 0, .bool false, .slice none 0 0, .int .i32 0] 36)).setCell (p := ⟨w.heap.size, 0, none⟩) (Nat.le_refl _) (.int .u32 (p : Int)))
       have HC := Lib.hid (HS.out _ (fun k hk => (heap_set_far (by omega) 0 (.int .u32 (p : Int))).trans ((HW.out m1 _).1 k hk)) (by rw [World.size_setCell]; exact (HW.out m1 _).2) ((HZ.out m1).s0 p)))
    | (have ep : p = 53 := by rw [← hp]; unfold keepN; omega
       clear hp
       subst ep
       go_enter Tryz.func15, Tryz.ntmps15
       go_wp2_with fail
       have HBW := Lib.hid (((below_drewN (Below.refl w.heap.size w) 0).alloc (by rw [heap_drewN]; omega) (.cells #[.int .u32 53, .int .u8 0, .int .i8 0, .int .u8 0, .bool false, .slice none 0 0, .int .i32 0] 36)))
       have HC := Lib.hid (HS.out _ (HW.out 0 _).1 (HW.out 0 _).2 (HF0.out 0)))
  all_goals
    clear HS HW HF0 HZ c3 c5 c6
    refine HC.out.mono ?_; rintro e w5 ⟨rfl, hp5⟩
    have HB5 := Lib.hid hp5
    clear hp5 HC
    have HX : Hid (∃ (pp g5 c5 : Nat) (f5 : Nat → Nat) (acc5 : Int) (E' W5 : Nat), Flt w5 w.heap.size pp acc5 1 neg (.slice (some ⟨g5, 0, none⟩) 1 c5) ((E' : Int) - 1074) ∧ Blk w5 g5 c5 f5 ∧ 1 ≤ c5 ∧ f5 0 = W5 ∧ finW W5 E' = rndW S ∧ 1 ≤ E' ∧ E' ≤ 2401 ∧ W5 < 18446744073709551616 ∧ Below w.heap.size w w5 ∧ w5.cell? ⟨b, 4, none⟩ = some (.bool neg)) := Lib.hid (by
      obtain ⟨g5, c5, f5, acc5, EE, W5, h1, h2, h3, h4, h5, h6, h7, h8⟩ := HB5.out
      obtain ⟨E', rfl, hfin, e1, e2, hw5⟩ := HD.out W5 EE h1
      have hbs := h8.2.2 w.heap.size (Nat.le_refl _) HBW.out.size HBW.out.size
      have hB := HBW.out.trans hbs
      refine ⟨_, g5, c5, f5, acc5, E', W5, h2, h3, h4, h5, hfin, by omega, by omega, hw5, hB, ?_⟩
      rw [hB.cell (p := ⟨b, 4, none⟩) hlb]; exact c4)
    clear HB5 HBW HD c4
    obtain ⟨pp, g5, c5, f5, acc5, E', W5, h2, h3, h4, h5, hfin, e1, e2, hw5, hB, x4⟩ := HX.out
    have r2 := h2.c2
    have r3 := h2.c3
    have r5 := h2.c5
    have r6 := h2.c6
    have HM : Hid (∀ a, Calls Tryz.prog 41 #[.slice (some ⟨g5, 0, none⟩) 1 c5] (w5.drewN a) fun e w' => e = .returned (.int .u64 (W5 : Int)) ∧ w' = w5.drewN a) := Lib.hid (fun a => msb64_one g5 c5 W5 f5 (w5.drewN a) (h3.drewN a) h4 h5)
    have HM0 := Lib.hid (msb64_one g5 c5 W5 f5 w5 h3 h4 h5)
    have HB := Lib.hid hB
    have HFin := Lib.hid hfin
    have h9 := @run_callFunc_extern Tryz.prog 22 _ Extern.MathFloatBits.float64frombits Tryz.func22 (by kernel_rfl) (by kernel_rfl) (by kernel_rfl) (by kernel_rfl)
    clear h2 h3 h4 h5 hfin HX hB
    rcases Nat.lt_or_ge E' 2099 with ho | ho
    · have hfin2 := HFin.out
      rcases Nat.lt_or_ge E' 53 with hd | hd
      · cases neg
        · have hR : bits .or .u64 (bits .or .u64 0 0) ((W5 : Int) / 2 ^ (64 - (1075 + ((E' : Int) - 1074 - 1))).toNat) = ((sgnB false + rndW S : Nat) : Int) := den_word hfin2 hd hw5 0 (Or.inl rfl)
          obtain ⟨R, hRR⟩ : ∃ R, R = sgnB false + rndW S := ⟨_, rfl⟩
          rw [← hRR] at hR
          have HRR := Lib.hid hRR
          clear hRR
          go_wp2_with fail
          refine HM0.out.mono ?_; rintro e w6 ⟨rfl, rfl⟩
          go_wp2_with fail
          go_quiet (fail)
          go_wp2
          go_ret2
          refine ⟨⟨acc5, ?_⟩, below_drewN HB.out _⟩
          rw [← HRR.out]
          rfl
        · have hR : bits .or .u64 (bits .or .u64 9223372036854775808 0) ((W5 : Int) / 2 ^ (64 - (1075 + ((E' : Int) - 1074 - 1))).toNat) = ((sgnB true + rndW S : Nat) : Int) := den_word hfin2 hd hw5 9223372036854775808 (Or.inr rfl)
          obtain ⟨R, hRR⟩ : ∃ R, R = sgnB true + rndW S := ⟨_, rfl⟩
          rw [← hRR] at hR
          have HRR := Lib.hid hRR
          clear hRR
          go_wp2_with fail
          refine HM0.out.mono ?_; rintro e w6 ⟨rfl, rfl⟩
          go_wp2_with fail
          go_quiet (fail)
          go_wp2
          go_ret2
          refine ⟨⟨acc5, ?_⟩, below_drewN HB.out _⟩
          rw [← HRR.out]
          rfl
      · cases neg
        · have hR : bits .or .u64 (bits .or .u64 0 (((E' : Int) - 1074 - 1 + 1023) * 4503599627370496)) (bits .and .u64 ((W5 : Int) / 2048) 4503599627370495) = ((sgnB false + rndW S : Nat) : Int) := nor_word hfin2 hd ho hw5 0 (Or.inl rfl)
          obtain ⟨R, hRR⟩ : ∃ R, R = sgnB false + rndW S := ⟨_, rfl⟩
          rw [← hRR] at hR
          have HRR := Lib.hid hRR
          clear hRR
          go_wp2_with fail
          refine HM0.out.mono ?_; rintro e w6 ⟨rfl, rfl⟩
          go_wp2_with fail
          go_quiet (fail)
          go_wp2
          go_ret2
          refine ⟨⟨acc5, ?_⟩, below_drewN HB.out _⟩
          rw [← HRR.out]
          rfl
        · have hR : bits .or .u64 (bits .or .u64 9223372036854775808 (((E' : Int) - 1074 - 1 + 1023) * 4503599627370496)) (bits .and .u64 ((W5 : Int) / 2048) 4503599627370495) = ((sgnB true + rndW S : Nat) : Int) := nor_word hfin2 hd ho hw5 9223372036854775808 (Or.inr rfl)
          obtain ⟨R, hRR⟩ : ∃ R, R = sgnB true + rndW S := ⟨_, rfl⟩
          rw [← hRR] at hR
          have HRR := Lib.hid hRR
          clear hRR
          go_wp2_with fail
          refine HM0.out.mono ?_; rintro e w6 ⟨rfl, rfl⟩
          go_wp2_with fail
          go_quiet (fail)
          go_wp2
          go_ret2
          refine ⟨⟨acc5, ?_⟩, below_drewN HB.out _⟩
          rw [← HRR.out]
          rfl
    · have hI : rndW S = 9218868437227405312 := by
        rw [← HFin.out]; unfold finW; rw [if_pos ho]
      cases neg
      · go_wp2_with fail
        refine (HIp.out _).mono ?_; rintro e w6 ⟨rfl, rfl⟩
        go_wp2
        go_ret2
        refine ⟨⟨1, ?_⟩, HB.out⟩
        rw [hI]; rfl
      · go_wp2_with fail
        refine (HIn.out _).mono ?_; rintro e w6 ⟨rfl, rfl⟩
        go_wp2
        go_ret2
        refine ⟨⟨-1, ?_⟩, HB.out⟩
        rw [hI]; rfl
end Go.Proofs.YtmkdcnemocdefaaGreatFmt
