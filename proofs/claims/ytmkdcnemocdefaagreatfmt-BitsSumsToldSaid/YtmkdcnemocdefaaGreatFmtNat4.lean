/- nat.lsh into a new row. -/
import Derived.Test.YtmkdcnemocdefaaGreatFmtNat2
import Derived.Test.YtmkdcnemocdefaaGreatFmtVecD
import Derived.Lib.SliceRun
import Derived.Test.YtmkdcnemocdefaaGreatFmtShelf
import Derived.Lib.ItoaNum
namespace Go.Proofs.YtmkdcnemocdefaaGreatFmt
open Go.RowKit

theorem wl_zero (m : Nat) : wl (fun _ => 0) 0 m = List.replicate m (.int .u64 0) := by
  apply List.ext_getElem?
  intro j
  rcases Nat.lt_or_ge j m with g | g
  · simp [wl, g]
  · rw [List.getElem?_eq_none (by rw [wl_len]; exact g), List.getElem?_eq_none (by simpa using g)]
theorem zero_word (w : World) : (zeroValue 71).run Tryz.prog w = .ok (.int .u64 0) w := by kernel_rfl
/-- clear: noughts. -/
theorem clear_words (T : TypeId) (hT : Tryz.prog.underlying T = some (.slice 71)) (g o n c C : Nat) (f : Nat → Nat) (w : World) (h : Blk w g C f) (hC : o + n ≤ C) :
    ∃ w', (∀ ty, (Builtin.clear_ #[T] ty #[.slice (some ⟨g, o, none⟩) n c]).run Tryz.prog w = .ok (.tuple #[]) w') ∧ Blk w' g C (put f o n (fun _ => 0)) ∧ Only w w' g := by
  rcases Nat.eq_zero_or_pos n with e | e
  · subst e
    refine ⟨w, fun ty => ?_, by rw [put_none]; exact h, Only.refl _ _⟩
    simp [Builtin.clear_, run_underlying hT]
  · have b := Blk.setCells (C := C) (g := g) (fun _ => 0) n 0 o w f h
    have r := fun ty => Lib.run_clear_slice (P := Tryz.prog) w T 71 ty (.int .u64 0) hT zero_word rfl rfl g o n c e (fun j hj => by rw [h.cell (o + j) (by omega)]; rfl) (fun j _ => h.frozen _)
    rw [← wl_zero n] at r
    exact ⟨_, r, b.1, b.2⟩
/-- The words of a shift. -/
def lshRow (x : Nat → Nat) (r d m : Nat) : Nat → Nat := fun i => if i < d then 0 else if i < d + m then shlW x r (i - d) else shc x r m
theorem lshRow_low (x : Nat → Nat) (r d m i : Nat) (h : i < d) : lshRow x r d m i = 0 := if_pos h
theorem lshRow_mid (x : Nat → Nat) (r d m i : Nat) (h : i < m) : lshRow x r d m (d + i) = shlW x r i := by
  unfold lshRow
  rw [if_neg (by omega), if_pos (by omega)]
  congr 1; omega
theorem lshRow_top (x : Nat → Nat) (r d m i : Nat) (h : d + m ≤ i) : lshRow x r d m i = shc x r m := by
  unfold lshRow
  rw [if_neg (by omega), if_neg (by omega)]
theorem lshRow_num (x : Nat → Nat) (r d m : Nat) (hr : r ≤ 64) : num (lshRow x r d m) (d + m + 1) = num x m * 2 ^ (64 * d + r) := by
  rw [num, lshRow_top x r d m (d + m) (Nat.le_refl _), num_add, num_zero (fun i hi => lshRow_low x r d m i hi), Nat.zero_add, num_congr (fun i hi => lshRow_mid x r d m i hi), Nat.mul_add 64 d m, Nat.pow_add 2 (64 * d) (64 * m), Nat.pow_add 2 (64 * d) r]
  have s := shlW_num x r hr m
  have e : shc x r m * (2 ^ (64 * d) * 2 ^ (64 * m)) = 2 ^ (64 * d) * (shc x r m * 2 ^ (64 * m)) := Nat.mul_left_comm _ _ _
  rw [e, ← Nat.mul_add, s, Nat.mul_left_comm]
theorem shc_lt {x : Nat → Nat} {r m : Nat} (hx : Wds x m) : shc x r m < 2 ^ 64 := by
  unfold shc
  split
  · decide
  · refine Nat.lt_of_le_of_lt (Nat.div_le_self _ _) (hx (m - 1) (by omega))
theorem lshRow_wds {x : Nat → Nat} {r d m : Nat} (hx : Wds x m) (hr : r ≤ 64) : Wds (lshRow x r d m) (d + m + 1) := fun i _ => by
  rcases Nat.lt_or_ge i d with a | a
  · rw [lshRow_low _ _ _ _ _ a]; decide
  · obtain ⟨j, rfl⟩ : ∃ j, i = d + j := ⟨i - d, by omega⟩
    rcases Nat.lt_or_ge j m with b | b
    · rw [lshRow_mid _ _ _ _ _ b]; exact shlW_wds hx hr j b
    · rw [lshRow_top _ _ _ _ _ (by omega)]; exact shc_lt hx
theorem shlW_nought {x : Nat → Nat} {m i : Nat} (hx : Wds x m) (h : i < m) : shlW x 0 i = x i := by
  have a := hx i h
  unfold shlW shc
  rw [Nat.pow_zero, Nat.mul_one, Nat.mod_eq_of_lt a]
  split
  · rfl
  · have b := hx (i - 1) (by omega)
    rw [Nat.sub_zero, Nat.div_eq_of_lt b, Nat.add_zero]
theorem shc_nought {x : Nat → Nat} {m : Nat} (hx : Wds x m) : shc x 0 m = 0 := by
  unfold shc
  split
  · rfl
  · have b := hx (m - 1) (by omega)
    rw [Nat.sub_zero, Nat.div_eq_of_lt b]
/-- What the block holds at the end. -/
theorem lsh_blk {w : World} {g C d m r v : Nat} {f x z : Nat → Nat} (hz : ∀ i, i < m → z i = shlW x r i) (hv : v = shc x r m) (h : Blk w g C (put (upd (put f d m z) (d + m) v) 0 d (fun _ => 0))) : Blk w g C (put f 0 (d + m + 1) (lshRow x r d m)) := by
  subst hv
  refine h.congr fun j _ => ?_
  rcases Nat.lt_or_ge j d with a | a
  · rw [put0_in f (d + m + 1) _ j (by omega), put0_in _ d _ j a, lshRow_low _ _ _ _ _ a]
  · rw [put0_out _ d (fun _ => 0) j a]
    by_cases b : j = d + m
    · subst b
      rw [upd_same, put0_in f (d + m + 1) _ _ (by omega), lshRow_top _ _ _ _ _ (Nat.le_refl _)]
    · rw [upd_far _ _ _ _ b]
      rcases Nat.lt_or_ge j (d + m) with c | c
      · obtain ⟨i, rfl⟩ : ∃ i, j = d + i := ⟨j - d, by omega⟩
        rw [put_in f d m z i (by omega), put0_in f (d + m + 1) _ _ (by omega), lshRow_mid _ _ _ _ _ (by omega), hz i (by omega)]
      · rw [put_out f d m z j (by omega), put0_out f (d + m + 1) _ j (by omega)]

set_option maxRecDepth 20000 in
set_option maxHeartbeats 2000000 in
theorem lsh_any (g0 gx cx m s : Nat) (x : Nat → Nat) (w : World) (hx : Row w gx cx m x) (hs : 1 ≤ s) (hs2 : s ≤ 100000) (hm : m ≤ 100000) :
    Calls Tryz.prog 49 #[.slice none 0 0, .slice (some ⟨gx, 0, none⟩) m cx, .int .u64 (s : Int)] w fun e w' => ∃ r, e = .returned r ∧ NatR w w' r g0 0 (s / 64 + m + 1) (num x m * 2 ^ s) := by
  have h1 := hx.one
  have hcx := hx.cap
  obtain ⟨d, hd⟩ : ∃ d, s / 64 = d := ⟨_, rfl⟩
  obtain ⟨r, hr⟩ : ∃ r, s % 64 = r := ⟨_, rfl⟩
  have es : s = 64 * d + r := by omega
  have hr2 : r < 64 := by omega
  have HN : Hid (num (lshRow x r d m) (d + m + 1) = num x m * 2 ^ s) := Lib.hid (by rw [es]; exact lshRow_num x r d m (by omega))
  have HW : Hid (Wds (lshRow x r d m) (d + m + 1)) := Lib.hid (lshRow_wds hx.wds (by omega))
  have HM := Lib.hid (make_any (.slice none 0 0) g0 0 (d + m + 1) (by omega) (by omega) w (Or.inl ⟨rfl, rfl⟩))
  rw [show ((d + m + 1 : Nat) : Int) = (m : Int) + (d : Int) + 1 by omega] at HM
  have hd2 : d ≤ 2000 := by omega
  rw [hd]
  have e1 : (s : Int) / 64 = (d : Int) := by omega
  have e2 : (s : Int) % 64 = (r : Int) := by omega
  have s0 : ¬ ((s : Int) = 0) := by omega
  have m0 : ¬ ((m : Int) = 0) := by omega
  have HX := Lib.hid hx
  have lgx : gx < w.heap.size := cell_lt (hx.wr 0 (by omega))
  clear hx hd hr es hs hs2
  go_enter Tryz.func49, Tryz.ntmps49
  go_wp2_with fail
  refine HM.out.mono ?_; rintro e w1 ⟨v, rfl, g, c, f, rfl, hb, hc, hg, hB⟩
  have HG := Lib.hid (show g = g0 ∧ c = 0 ∨ w.heap.size ≤ g ∧ c ≤ d + m + 1 + 4 from hg)
  have HBl := Lib.hid hB
  have hgx : gx ≠ g := by omega
  have HBk := Lib.hid hb
  obtain ⟨a1, ea1, s1⟩ := slice_part 34 Tryz.underlying34 g 0 (d + m + 1) c d (d + m) (by omega) (by omega)
  obtain rfl : a1 = ⟨g, d, none⟩ := by have := ea1 (by omega); rw [Nat.zero_add] at this; exact this
  rw [show ((d + m : Nat) : Int) = (m : Int) + (d : Int) by omega, Nat.add_sub_cancel_left] at s1
  obtain ⟨a2, ea2, s2⟩ := slice_part 34 Tryz.underlying34 g 0 (d + m + 1) c 0 d (by omega) (by omega)
  obtain rfl : a2 = ⟨g, 0, none⟩ := ea2 (by omega)
  rw [show ((0 : Nat) : Int) = 0 from rfl, Nat.sub_zero, Nat.sub_zero] at s2
  have ed : (m : Int) + (d : Int) - (m : Int) = (d : Int) := by omega
  have en : ((m : Int) + (d : Int)).toNat = d + m := by omega
  have hx1 := HX.out.wr.old hB
  clear hb hB hg ea1 ea2
  by_cases h0 : r = 0
  · subst h0
    have e2' : (s : Int) % 64 = 0 := e2
    clear e2
    obtain ⟨w2, hr2, hb2, ho2⟩ := copy_words 34 Tryz.underlying34 3 g d m (c - d) gx 0 m cx m c x f w1 HBk.out hx1 (by simp) (by omega)
    have HO2 := Lib.hid ho2
    have c2 := hb2.cell (d + m) (by omega)
    have f2 := hb2.frozen (d + m)
    have HB3 : Blk (w2.setCell ⟨g, d + m, none⟩ (.int .u64 0)) g c (upd (put f d m x) (d + m) 0) := hb2.set (d + m) 0
    obtain ⟨w4, hcl, hb4, ho4⟩ := clear_words 34 Tryz.underlying34 g 0 d c c _ _ HB3 (by omega)
    have HB4 := Lib.hid hb4
    have HS := Lib.hid (lsh_blk (fun i hi => (shlW_nought HX.out.wds hi).symm) (shc_nought HX.out.wds).symm HB4.out)
    have HO4 := Lib.hid (((ho2.set (d + m) (.int .u64 0)).trans ho4))
    clear hb2 ho2 HB3 hb4 ho4 HB4 hx1
    go_wp2_with (at_builtin; refine Lib.wpList_copy_run _ rfl _ _ 34 34 rfl _ _ rfl rfl hr2 ?_)
    refine (norm_any' g 0 (d + m + 1) c hc (by have := HG.out; omega) _ _ (put0 HS.out hc)).mono ?_; rintro e w5 ⟨k, rfl, hk, rfl⟩
    go_wp2
    go_ret
    refine ⟨_, rfl, ?_⟩
    exact natR_of HBl.out HO4.out HS.out HW.out HN.out hk hc HG.out
  · have r0 : ¬ ((r : Int) = 0) := by omega
    have HL := Lib.hid (lshVU_any g d (c - d) gx 0 cx m c r x f w1 HBk.out (by omega) hx1 (Or.inl hgx) HX.out.wds (by omega) (by omega) h1 (by omega))
    clear hx1
    go_wp2_with fail
    refine HL.out.mono ?_; rintro e w2 ⟨rfl, hb2, ho2⟩
    have HO2 := Lib.hid ho2
    have c2 := hb2.cell (d + m) (by omega)
    have f2 := hb2.frozen (d + m)
    have HB3 := hb2.set (d + m) (shc x r m)
    obtain ⟨w4, hcl, hb4, ho4⟩ := clear_words 34 Tryz.underlying34 g 0 d c c _ _ HB3 (by omega)
    have HS := Lib.hid (lsh_blk (fun i hi => rfl) rfl hb4)
    have HO4 := Lib.hid (((ho2.set (d + m) (.int .u64 (shc x r m : Int))).trans ho4))
    clear hb2 ho2 HB3 hb4 ho4
    go_wp2_with fail
    refine (norm_any' g 0 (d + m + 1) c hc (by have := HG.out; omega) _ _ (put0 HS.out hc)).mono ?_; rintro e w5 ⟨k, rfl, hk, rfl⟩
    go_wp2
    go_ret
    exact ⟨_, rfl, natR_of HBl.out HO4.out HS.out HW.out HN.out hk hc HG.out⟩
end Go.Proofs.YtmkdcnemocdefaaGreatFmt

namespace Go.Proofs.YtmkdcnemocdefaaGreatFmt
open Go.RowKit

theorem and_1 (a : Nat) (h : a < 18446744073709551616) : bits .and .u64 (a : Int) 1 = ((a % 2 : Nat) : Int) := by
  have r := u64_and_nat a 1 h (by decide)
  have e : a &&& 1 = a % 2 := by
    have m := Nat.and_two_pow_sub_one_eq_mod a 1
    rw [show (2 : Nat) ^ 1 - 1 = 1 by rfl, show (2 : Nat) ^ 1 = 2 by rfl] at m
    exact m
  rw [e] at r
  exact r
theorem bit_any (g c n i : Nat) (x : Nat → Nat) (w : World) (hx : WR w g 0 n x) (wx : Wds x n) (hi : i / 64 < n) (hn : n ≤ 1000000) :
    Calls Tryz.prog 43 #[.slice (some ⟨g, 0, none⟩) n c, .int .u64 (i : Int)] w fun e w' => e = .returned (.int .u64 ((num x n / 2 ^ i % 2 : Nat) : Int)) ∧ w' = w := by
  rw [num_bit x n i hi wx]
  obtain ⟨j, hj⟩ : ∃ j, i / 64 = j := ⟨_, rfl⟩
  obtain ⟨b, hb⟩ : ∃ b, i % 64 = b := ⟨_, rfl⟩
  rw [hj, hb]
  have lx := hx j (by omega)
  rw [Nat.zero_add] at lx
  have bx := wx j (by omega)
  have e1 : (i : Int) / 64 = (j : Int) := by omega
  have e2 : (i : Int) % 64 = (b : Int) := by omega
  have b64 : b < 64 := by omega
  have hjn : j < n := by omega
  have ea : bits .and .u64 ((x j : Int) / 2 ^ b) 1 = ((x j / 2 ^ b % 2 : Nat) : Int) := and_1 (x j / 2 ^ b) (Nat.lt_of_le_of_lt (Nat.div_le_self _ _) bx)
  have HI : (i : Int) ≤ 64000063 := by omega
  clear hx wx hj hb hi
  go_enter Tryz.func43, Tryz.ntmps43
  go_wp2
  go_ret
  exact ⟨rfl, rfl⟩
theorem shl_rest (a b : Nat) (h : b < 64) : a * 2 ^ (64 - b) % 18446744073709551616 = 0 ↔ a % 2 ^ b = 0 := by
  have e : (18446744073709551616 : Nat) = 2 ^ b * 2 ^ (64 - b) := by rw [← Nat.pow_add, show b + (64 - b) = 64 by omega]
  have p : 0 < (2 : Nat) ^ (64 - b) := Nat.two_pow_pos _
  rw [e, Nat.mul_mod_mul_right]
  constructor
  · intro h
    rcases Nat.mul_eq_zero.1 h with g | g
    · exact g
    · omega
  · intro h
    rw [h, Nat.zero_mul]
theorem shl_restI (a b : Nat) (h : b < 64) : IntKind.u64.wrap ((a : Int) * 2 ^ (64 - b)) = 0 ↔ a % 2 ^ b = 0 := by
  rw [IntKind.wrap_u64]
  have c : (a : Int) * 2 ^ (64 - b) % 18446744073709551616 = ((a * 2 ^ (64 - b) % 18446744073709551616 : Nat) : Int) := by simp
  rw [c, ← shl_rest a b h]
  generalize a * 2 ^ (64 - b) % 18446744073709551616 = v
  omega
/-- Whether anything stands below bit i. -/
def stk (N i : Nat) : Nat := if N % 2 ^ i = 0 then 0 else 1
set_option maxRecDepth 20000 in
theorem sticky_any (g c n i : Nat) (x : Nat → Nat) (w : World) (hx : WR w g 0 n x) (wx : Wds x n) (hi : i / 64 < n) (hn : n ≤ 1000000) (hc : n ≤ c) :
    Calls Tryz.prog 40 #[.slice (some ⟨g, 0, none⟩) n c, .int .u64 (i : Int)] w fun e w' => e = .returned (.int .u64 (stk (num x n) i : Int)) ∧ w' = w := by
  have HR := Lib.hid (rest_zero x n i hi wx)
  obtain ⟨j, hj⟩ : ∃ j, i / 64 = j := ⟨_, rfl⟩
  obtain ⟨b, hb⟩ : ∃ b, i % 64 = b := ⟨_, rfl⟩
  rw [hj, hb] at HR
  have lx := hx j (by omega)
  rw [Nat.zero_add] at lx
  have e1 : (i : Int) / 64 = (j : Int) := by omega
  have e2 : (i : Int) % 64 = (b : Int) := by omega
  have b64 : b < 64 := by omega
  have hjn : j < n := by omega
  have hjc : (j : Int) ≤ (c : Int) := by omega
  have HX := Lib.hid hx
  have hs := Lib.hid (shl_restI (x j) b b64)
  have HI : (i : Int) ≤ 64000063 := by omega
  clear hx wx hj hb hi
  go_enter Tryz.func40, Tryz.ntmps40
  go_wp2
  go_loopw [22] (fun k wr => ∃ t : Nat, t ≤ j ∧ k = .int .i64 t ∧ Hid (∀ i, i < t → x i = 0) ∧ wr = w) (fun k _ => j - (intOf k).toNat)
  case atStart => exact ⟨0, Nat.zero_le _, rfl, Lib.hid (fun i hi => by omega), rfl⟩
  case round =>
    obtain ⟨t, ht, rfl, hz, rfl⟩ := hrel
    rcases Nat.lt_or_ge t j with h | h
    · have lt := HX.out t (by omega)
      rw [Nat.zero_add] at lt
      by_cases z : x t = 0
      · have z' : (x t : Int) = 0 := by omega
        go_wp2
        refine ⟨⟨t + 1, h, by simp, Lib.hid (fun i hi => ?_), trivial⟩, by simp [intOf]; omega⟩
        rcases Nat.lt_or_ge i t with q | q
        · exact hz.out i q
        · rw [show i = t by omega]; exact z
      · have z' : ¬ ((x t : Int) = 0) := by omega
        go_wp2
        go_ret
        have e : stk (num x n) i = 1 := if_neg (fun q => z ((HR.out.1 q).1 t h))
        rw [e]
        exact ⟨rfl, rfl⟩
    · obtain rfl : t = j := by omega
      by_cases z : x t % 2 ^ b = 0
      · have z' : IntKind.u64.wrap ((x t : Int) * 2 ^ (64 - b)) = 0 := hs.out.2 z
        have e : Hid (stk (num x n) i = 0) := Lib.hid (if_pos (HR.out.2 ⟨hz.out, z⟩))
        go_wp2
        go_ret
        exact ⟨by rw [e.out]; rfl, rfl⟩
      · have z' : ¬ (IntKind.u64.wrap ((x t : Int) * 2 ^ (64 - b)) = 0) := fun q => z (hs.out.1 q)
        have e : Hid (stk (num x n) i = 1) := Lib.hid (if_neg (fun q => z (HR.out.1 q).2))
        go_wp2
        go_ret
        exact ⟨by rw [e.out]; rfl, rfl⟩
end Go.Proofs.YtmkdcnemocdefaaGreatFmt

namespace Go.Proofs.YtmkdcnemocdefaaGreatFmt
open Go.RowKit

theorem nlz_any (x : Nat) (hx : x < 18446744073709551616) (h0 : x ≠ 0) (w : World) :
    Calls Tryz.prog 66 #[.int .u64 (x : Int)] w fun e w' => e = .returned (.int .u64 ((63 - Nat.log2 x : Nat) : Int)) ∧ w' = w := by
  have H := Lib.hid (fun W => Tryz.bits_LeadingZeros x W (by omega) (by omega))
  have l := (Nat.log2_lt h0).2 (show x < 2 ^ 64 from hx)
  have e : (64 - (Lib.bitLen (x : Int).toNat : Int)) = ((63 - Nat.log2 x : Nat) : Int) := by
    rw [Int.toNat_natCast]
    obtain ⟨b1, b2, b3⟩ := Lib.bitLenAux_bounds 64 x hx h0
    have e2 := log2_of (S := x) (E := Lib.bitLenAux 64 x) (by
      obtain ⟨q, hq⟩ : ∃ q, Lib.bitLenAux 64 x = q + 1 := ⟨Lib.bitLenAux 64 x - 1, by omega⟩
      rw [hq, Nat.add_sub_cancel] at b2
      rw [hq, Nat.pow_succ]
      omega) b3
    show 64 - ((Lib.bitLenAux 64 x : Nat) : Int) = _
    omega
  rw [e] at H
  generalize 63 - Nat.log2 x = s at *
  have hs : (s : Int) ≤ 64 := by omega
  clear e l
  go_enter Tryz.func66, Tryz.ntmps66
  go_wp2_with fail
  refine (H.out _).mono ?_; rintro e w' ⟨rfl, rfl⟩
  go_wp2
  go_ret
  exact ⟨rfl, rfl⟩
theorem norm_parts {f : Nat → Nat} {k s : Nat} (hk : 1 ≤ k) (hf : Wds f k) (h0 : f (k - 1) ≠ 0) (hs : s = 63 - Nat.log2 (f (k - 1))) :
    s ≤ 63 ∧ num (shlW f s) k = num f k * 2 ^ s ∧ Wds (shlW f s) k ∧ 9223372036854775808 ≤ shlW f s (k - 1) := by
  have hb := hf (k - 1) (by omega)
  have l := (Nat.log2_lt h0).2 hb
  have l1 := Nat.log2_self_le h0
  have l2 : f (k - 1) < 2 ^ (Nat.log2 (f (k - 1)) + 1) := Nat.lt_log2_self
  have e64 : Nat.log2 (f (k - 1)) + 1 = 64 - s := by omega
  rw [e64] at l2
  have hc : shc f s k = 0 := by
    unfold shc
    rw [if_neg (by omega)]
    exact Nat.div_eq_of_lt l2
  have n := shlW_num f s (by omega) k
  rw [hc, Nat.zero_mul, Nat.add_zero] at n
  refine ⟨by omega, n, shlW_wds hf (by omega), ?_⟩
  unfold shlW
  have a : f (k - 1) * 2 ^ s < 18446744073709551616 := by
    have q := Nat.mul_lt_mul_of_pos_right l2 (Nat.two_pow_pos s)
    rw [← Nat.pow_add, show 64 - s + s = 64 by omega] at q
    exact q
  rw [Nat.mod_eq_of_lt a]
  have q := Nat.mul_le_mul_right (2 ^ s) l1
  rw [← Nat.pow_add, show Nat.log2 (f (k - 1)) + s = 63 by omega] at q
  omega
set_option maxRecDepth 20000 in
theorem fnorm_any (g k c : Nat) (f : Nat → Nat) (w : World) (h : Blk w g c f) (hk : 1 ≤ k) (hkc : k ≤ c) (hf : Wds f k) (h0 : f (k - 1) ≠ 0) (hn : k ≤ 1000000) :
    Calls Tryz.prog 52 #[.slice (some ⟨g, 0, none⟩) k c] w fun e w' => ∃ s z, e = .returned (.int .i64 ((s : Nat) : Int)) ∧ s ≤ 63 ∧ num z k = num f k * 2 ^ s ∧ Wds z k ∧ 9223372036854775808 ≤ z (k - 1) ∧ Blk w' g c z ∧ Only w w' g := by
  obtain ⟨s, hs⟩ : ∃ s, s = 63 - Nat.log2 (f (k - 1)) := ⟨_, rfl⟩
  have HP := Lib.hid (norm_parts hk hf h0 hs)
  have s63 := HP.out.1
  have HN := Lib.hid (fun W => nlz_any (f (k - 1)) (hf (k - 1) (by omega)) h0 W)
  rw [← hs] at HN
  have l := h.cell (k - 1) (by omega)
  have ek : ((k - 1 : Nat) : Int) = (k : Int) - 1 := by omega
  have kt : ((k : Int) - 1).toNat = k - 1 := by omega
  by_cases z : s = 0
  · have z' : ¬ ((0 : Int) < (s : Int)) := by omega
    have HH := Lib.hid h
    have HW := Lib.hid hf
    clear hs h hf
    go_enter Tryz.func52, Tryz.ntmps52
    go_wp2_with fail
    refine (HN.out _).mono ?_; rintro e w1 ⟨rfl, rfl⟩
    go_wp2
    go_ret
    refine ⟨0, f, rfl, by omega, by simp, HW.out, ?_, HH.out, Only.refl _ _⟩
    have q := HP.out.2.2.2
    rw [z, shlW_nought HW.out (by omega)] at q
    exact q
  · have z' : (0 : Int) < (s : Int) := by omega
    have HL := Lib.hid (lshVU_any g 0 c g 0 c k c s f f w h (by omega) (fun j hj => by rw [Nat.zero_add]; exact h.cell j (by omega)) (Or.inr rfl) hf (by omega) s63 hk hn)
    clear hs h hf
    go_enter Tryz.func52, Tryz.ntmps52
    go_wp2_with fail
    refine (HN.out _).mono ?_; rintro e w1 ⟨rfl, rfl⟩
    go_wp2_with fail
    refine HL.out.mono ?_; rintro e w2 ⟨rfl, hb2, ho2⟩
    have HB2 := Lib.hid hb2
    have HO2 := Lib.hid ho2
    clear hb2 ho2
    go_wp2
    go_ret
    refine ⟨s, _, rfl, s63, ?_, ?_, ?_, HB2.out, HO2.out⟩
    · rw [num_congr (fun i hi => put0_in f k _ i hi)]; exact HP.out.2.1
    · intro i hi; rw [put0_in f k _ i hi]; exact HP.out.2.2.1 i hi
    · rw [put0_in f k _ _ (by omega)]; exact HP.out.2.2.2
/-- A row with itself. -/
theorem alias_same (g k c : Nat) (hc : 1 ≤ c) (hc2 : c ≤ 1000000) (w : World) :
    Calls Tryz.prog 48 #[.slice (some ⟨g, 0, none⟩) k c, .slice (some ⟨g, 0, none⟩) k c] w fun e w' => e = .returned (.bool true) ∧ ∃ n, w' = w.drewN n := by
  have he := fun (i n : Nat) => wptr_same' g i (w.drewN n)
  have d0 : decide ((0 : Int) < (c : Int)) = true := decide_eq_true (by omega)
  have d2 : decide (0 < c) = true := decide_eq_true (by omega)
  have d1 : (1 : Int) ≤ (c : Int) := by omega
  have c0 : ¬ (c = 0) := by omega
  have ew : IntKind.i64.wrap ((c : Int) - 1) = (c : Int) - 1 := IntWalk.i64_in _ (by omega)
  go_enter Tryz.func48, Tryz.ntmps48
  go_wp2
  go_quiet (fail)
  go_wp2
  go_ret
  exact ⟨rfl, _, rfl⟩
/-- Two rows of two blocks. -/
theorem alias_diff (g k c gy ky cy : Nat) (hne : g ≠ gy) (hc : 1 ≤ c) (hc2 : c ≤ 1000000) (hy : 1 ≤ cy) (hy2 : cy ≤ 1000000) (w : World) (h1 : ∃ cs, w.heap[g]? = some (.cells cs 71 (0, 0))) (h2 : ∃ cs, w.heap[gy]? = some (.cells cs 71 (0, 0))) :
    Calls Tryz.prog 48 #[.slice (some ⟨g, 0, none⟩) k c, .slice (some ⟨gy, 0, none⟩) ky cy] w fun e w' => e = .returned (.bool false) ∧ ∃ n, w' = w.drewN n := by
  obtain ⟨ca, ha⟩ := h1
  obtain ⟨cb, hb⟩ := h2
  have he := fun (i j n : Nat) => wptr_ne g i gy j hne ca cb (w.drewN n) (by rw [heap_drewN]; exact ha) (by rw [heap_drewN]; exact hb)
  have d0 : decide ((0 : Int) < (c : Int)) = true := decide_eq_true (by omega)
  have d2 : decide (0 < c) = true := decide_eq_true (by omega)
  have d1 : (1 : Int) ≤ (c : Int) := by omega
  have c0 : ¬ (c = 0) := by omega
  have ew : IntKind.i64.wrap ((c : Int) - 1) = (c : Int) - 1 := IntWalk.i64_in _ (by omega)
  have d0' : decide ((0 : Int) < (cy : Int)) = true := decide_eq_true (by omega)
  have d2' : decide (0 < cy) = true := decide_eq_true (by omega)
  have d1' : (1 : Int) ≤ (cy : Int) := by omega
  have c0' : ¬ (cy = 0) := by omega
  have ew' : IntKind.i64.wrap ((cy : Int) - 1) = (cy : Int) - 1 := IntWalk.i64_in _ (by omega)
  clear ha hb
  go_enter Tryz.func48, Tryz.ntmps48
  go_wp2
  go_quiet (fail)
  go_wp2
  go_ret
  exact ⟨rfl, _, rfl⟩
end Go.Proofs.YtmkdcnemocdefaaGreatFmt
