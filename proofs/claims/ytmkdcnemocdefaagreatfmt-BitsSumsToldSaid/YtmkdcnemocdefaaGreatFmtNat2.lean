/- nat.add. -/
import Derived.Test.YtmkdcnemocdefaaGreatFmtNat1
import Derived.Test.YtmkdcnemocdefaaGreatFmtVecA
import Derived.Test.YtmkdcnemocdefaaGreatFmtVecC
namespace Go.Proofs.YtmkdcnemocdefaaGreatFmt
open Go.RowKit

/-- addVW, wherever the row goes. -/
theorem addVW_any (gz oz cz gx ox cx n C y : Nat) (x f : Nat → Nat) (w : World) (hz : Blk w gz C f) (hC : oz + n ≤ C) (hx : WR w gx ox n x) (hal : gx ≠ gz ∨ ox = oz ∧ cx = cz) (hX : ∃ cs, w.heap[gx]? = some (.cells cs 71 (0, 0))) (wx : Wds x n) (hy : y < 18446744073709551616) (h1 : 1 ≤ n) (hn : n ≤ 1000000) (hcz : n ≤ cz) (hcx : n ≤ cx) :
    Calls Tryz.prog 44 #[.slice (some ⟨gz, oz, none⟩) n cz, .slice (some ⟨gx, ox, none⟩) n cx, .int .u64 (y : Int)] w fun e w' =>
      e = .returned (.int .u64 (addC x (one y) n : Int)) ∧ Blk w' gz C (put f oz n (addW x (one y))) ∧ Only w w' gz := by
  by_cases e : gx = gz
  · subst e
    obtain ⟨rfl, rfl⟩ : ox = oz ∧ cx = cz := by
      rcases hal with h | h
      · exact absurd rfl h
      · exact h
    exact addVW_same gx ox cx n C y x f w hz hC hx wx hy h1 hn
  · exact addVW_far gz oz cz gx ox cx n C y x f w hz hC hx e hX wx hy h1 hn hcz hcx
/-- A row with noughts behind it. -/
def pad (y : Nat → Nat) (n : Nat) : Nat → Nat := fun i => if i < n then y i else 0
theorem pad_in (y : Nat → Nat) (n i : Nat) (h : i < n) : pad y n i = y i := if_pos h
theorem pad_out (y : Nat → Nat) (n i : Nat) (h : n ≤ i) : pad y n i = 0 := if_neg (by omega)
theorem one_at (c : Nat) : one c 0 = c := rfl
theorem one_off (c i : Nat) : one c (i + 1) = 0 := if_neg (by omega)
theorem put0_in (f : Nat → Nat) (n : Nat) (z : Nat → Nat) (j : Nat) (h : j < n) : put f 0 n z j = z j := by
  have e := put_in f 0 n z j h
  rw [Nat.zero_add] at e
  exact e
theorem put0_out (f : Nat → Nat) (n : Nat) (z : Nat → Nat) (j : Nat) (h : n ≤ j) : put f 0 n z j = f j := put_out f 0 n z j (by omega)
theorem pad_wds {y : Nat → Nat} {n m : Nat} (h : Wds y n) : Wds (pad y n) m := fun i _ => by
  rcases Nat.lt_or_ge i n with g | g
  · rw [pad_in y n i g]; exact h i g
  · rw [pad_out y n i g]; decide
theorem pad_num (y : Nat → Nat) (n m : Nat) (h : n ≤ m) : num (pad y n) m = num y n :=
  (num_top h (fun j h1 _ => pad_out y n j h1)).trans (num_congr fun i hi => pad_in y n i hi)
theorem addC_pad (x y : Nat → Nat) (n : Nat) : ∀ i, i ≤ n → addC x y i = addC x (pad y n) i
  | 0, _ => rfl
  | i + 1, h => by rw [addC, addC, addC_pad x y n i (by omega), pad_in y n i (by omega)]
theorem addW_pad (x y : Nat → Nat) (n i : Nat) (h : i < n) : addW x y i = addW x (pad y n) i := by
  unfold addW; rw [addC_pad x y n i (by omega), pad_in y n i h]
theorem addC_tail (x y : Nat → Nat) (n : Nat) : ∀ j, addC (fun i => x (n + i)) (one (addC x y n)) (j + 1) = addC x (pad y n) (n + j + 1)
  | 0 => by
    rw [addC, addC, addC, one_at, Nat.add_zero, Nat.add_zero, pad_out y n n (Nat.le_refl _), addC_pad x y n n (Nat.le_refl _), Nat.add_zero]
  | j + 1 => by
    rw [addC, addC_tail x y n j, one_off]
    show (x (n + j + 1) + 0 + addC x (pad y n) (n + j + 1)) / 18446744073709551616 = (x (n + j + 1) + pad y n (n + j + 1) + addC x (pad y n) (n + j + 1)) / 18446744073709551616
    rw [pad_out y n (n + j + 1) (by omega)]
theorem addW_tail (x y : Nat → Nat) (n j : Nat) : addW (fun i => x (n + i)) (one (addC x y n)) j = addW x (pad y n) (n + j) := by
  cases j with
  | zero =>
    unfold addW
    rw [addC, one_at, Nat.add_zero, Nat.add_zero, pad_out y n n (Nat.le_refl _), addC_pad x y n n (Nat.le_refl _), Nat.add_zero]
    rfl
  | succ j =>
    unfold addW
    rw [addC_tail x y n j, one_off, pad_out y n (n + (j + 1)) (by omega)]
    rfl
/-- The words of a sum, the last carry at their end. -/
def sumRow (x y : Nat → Nat) (n m : Nat) : Nat → Nat := fun i => if i < m then addW x (pad y n) i else addC x (pad y n) m
theorem sumRow_in (x y : Nat → Nat) (n m i : Nat) (h : i < m) : sumRow x y n m i = addW x (pad y n) i := if_pos h
theorem sumRow_top (x y : Nat → Nat) (n m i : Nat) (h : m ≤ i) : sumRow x y n m i = addC x (pad y n) m := if_neg (by omega)
theorem sumRow_num (x y : Nat → Nat) (n m : Nat) (h : n ≤ m) : num (sumRow x y n m) (m + 1) = num x m + num y n := by
  rw [num, num_congr (fun i hi => sumRow_in x y n m i hi), sumRow_top x y n m m (Nat.le_refl _), ← pad_num y n m h, ← addW_num]
theorem sumRow_wds {x y : Nat → Nat} {n m : Nat} (hx : Wds x m) (hy : Wds y n) : Wds (sumRow x y n m) (m + 1) := fun i _ => by
  rcases Nat.lt_or_ge i m with g | g
  · rw [sumRow_in _ _ _ _ _ g]; exact addW_wds _ _ (i + 1) i (by omega)
  · have := addC_le hx (pad_wds (m := m) hy)
    rw [sumRow_top _ _ _ _ _ g]
    omega
/-- Behind the store of the carry: what the block holds, one length. -/
theorem sum_eq {w : World} {g C n : Nat} {f x y : Nat → Nat} (h : Blk w g C (put f 0 n (addW x y))) : Blk (w.setCell ⟨g, n, none⟩ (.int .u64 (addC x y n : Int))) g C (put f 0 (n + 1) (sumRow x y n n)) := by
  have s := h.set n (addC x y n)
  refine s.congr fun j _ => ?_
  rcases Nat.lt_or_ge j n with a | a
  · rw [upd_far _ _ _ _ (by omega), put0_in _ _ _ _ a, put0_in _ _ _ _ (by omega), sumRow_in _ _ _ _ _ a, addW_pad x y n j a]
  · by_cases b : j = n
    · subst b
      rw [upd_same, put0_in _ _ _ _ (by omega), sumRow_top _ _ _ _ _ a, addC_pad x y j j (Nat.le_refl _)]
    · rw [upd_far _ _ _ _ b, put0_out _ _ _ _ a, put0_out _ _ _ _ (by omega)]
theorem sum_gt {w : World} {g C n m : Nat} {f x y : Nat → Nat} (hnm : n < m) (h : Blk w g C (put (put f 0 n (addW x y)) n (m - n) (addW (fun i => x (n + i)) (one (addC x y n))))) :
    Blk (w.setCell ⟨g, m, none⟩ (.int .u64 (addC (fun i => x (n + i)) (one (addC x y n)) (m - n) : Int))) g C (put f 0 (m + 1) (sumRow x y n m)) := by
  have s := h.set m (addC (fun i => x (n + i)) (one (addC x y n)) (m - n))
  refine s.congr fun j _ => ?_
  rcases Nat.lt_or_ge j m with a | a
  · rw [upd_far _ _ _ _ (by omega), put0_in _ _ _ _ (by omega), sumRow_in _ _ _ _ _ a]
    rcases Nat.lt_or_ge j n with b | b
    · rw [put_out _ _ _ _ _ (Or.inl b), put0_in _ _ _ _ b, addW_pad x y n j b]
    · obtain ⟨d, rfl⟩ : ∃ d, j = n + d := ⟨j - n, by omega⟩
      rw [put_in _ _ _ _ _ (by omega), addW_tail]
  · by_cases b : j = m
    · subst b
      obtain ⟨d, hd⟩ : ∃ d, j - n = d + 1 := ⟨j - n - 1, by omega⟩
      rw [upd_same, put0_in _ _ _ _ (by omega), sumRow_top _ _ _ _ _ a, hd, addC_tail, show n + d + 1 = j by omega]
    · rw [upd_far _ _ _ _ b, put0_out f (m + 1) _ j (by omega), put_out _ n (m - n) _ j (by omega), put0_out f n _ j (by omega)]
/-- A row behind norm. -/
theorem NormOf.num {f : Nat → Nat} {n k : Nat} (h : NormOf f n k) : Proofs.YtmkdcnemocdefaaGreatFmt.num f n = Proofs.YtmkdcnemocdefaaGreatFmt.num f k := num_top h.1 h.2.1
theorem put0 {w : World} {g C n : Nat} {f z : Nat → Nat} (h : Blk w g C (put f 0 n z)) (hn : n ≤ C) : WR w g 0 n z := fun j hj => by
  have c := h.cell (0 + j) (by omega)
  rw [put_in f 0 n z j hj] at c
  exact c
/-- The row's answer. -/
theorem natR_of {w w1 w2 : World} {g0 c0 g c n k N : Nat} {f z : Nat → Nat} (hB : Below w.heap.size w w1) (ho : Only w1 w2 g) (hb : Blk w2 g c (put f 0 n z)) (hz : Wds z n) (hN : num z n = N) (hk : NormOf z n k) (hn : n ≤ c)
    (hg : g = g0 ∧ c = c0 ∨ w.heap.size ≤ g ∧ c ≤ n + 4) : NatR w w2 (.slice (some ⟨g, 0, none⟩) k c) g0 c0 n N := by
  have e : ∀ i, i < n → put f 0 n z i = z i := fun i hi => by
    have e := put_in f 0 n z i hi
    rw [Nat.zero_add] at e
    exact e
  have hkn := hk.1
  refine ⟨g, c, k, _, rfl, hb, fun i hi => by rw [e i (by omega)]; exact hz i (by omega), by omega, ?_, ?_, hkn, hg, Room.kept hB ho.kept, fun B h1 h2 => (hB.mono h2).trans (ho.2.2.mono h1)⟩
  · rw [num_congr (fun i hi => e i (by omega)), ← hk.num, hN]
  · rcases hk.2.2 with h | h
    · exact Or.inl h
    · rcases Nat.eq_zero_or_pos k with q | q
      · exact Or.inl q
      · rw [e (k - 1) (by omega)]; exact Or.inr h

set_option maxHeartbeats 2000000 in
theorem add_eq (v : Value) (g0 c0 gx cx gy cy n : Nat) (x y : Nat → Nat) (w : World) (hv : Old w v g0 c0) (hx : WR w gx 0 n x) (hy : WR w gy 0 n y) (wx : Wds x n) (wy : Wds y n) (h1 : 1 ≤ n) (hn : n ≤ 800000) (hcx : n ≤ cx) (hcy : n ≤ cy) (hc0 : c0 ≤ 1000000) :
    Calls Tryz.prog 50 #[v, .slice (some ⟨gx, 0, none⟩) n cx, .slice (some ⟨gy, 0, none⟩) n cy] w fun e w' => ∃ r, e = .returned r ∧ NatR w w' r g0 c0 (n + 1) (num x n + num y n) := by
  have HM := Lib.hid (make_any v g0 c0 (n + 1) (by omega) (by omega) w hv)
  rw [show ((n + 1 : Nat) : Int) = (n : Int) + 1 by omega] at HM
  have HX := Lib.hid hx
  have HY := Lib.hid hy
  have WX := Lib.hid wx
  have WY := Lib.hid wy
  have n0 : ¬ ((n : Int) = 0) := by omega
  have hv9 := Lib.hid hc0
  clear hv hx hy wx wy hc0
  go_enter Tryz.func50, Tryz.ntmps50
  go_wp2_with fail
  refine HM.out.mono ?_; rintro e w1 ⟨r, rfl, g, c, f, rfl, hb, hc, hg, hB⟩
  have HG := Lib.hid hg
  have HBl := Lib.hid hB
  have HV := Lib.hid (addVV_any g 0 c gx 0 cx gy 0 cy n c x y f w1.drew (hb.drewN 1) (by omega) (fun j hj => (HX.out.old hB) j hj) (fun j hj => (HY.out.old hB) j hj) WX.out WY.out (Or.inr rfl) (Or.inr rfl) (by omega))
  have hnc : (n : Int) ≤ (c : Int) := by omega
  have hnx : (n : Int) ≤ (cx : Int) := by omega
  have hny : (n : Int) ≤ (cy : Int) := by omega
  clear hb hB hg
  go_wp2_with fail
  go_region_with (go_at_call 23; refine HV.out.mono ?_; rintro e w2 ⟨rfl, hb2, ho2⟩)
  all_goals
    have HB2 := Lib.hid hb2
    have HO2 := Lib.hid ho2
    clear hb2 ho2
    have c2 := HB2.out.cell n (by omega)
    have f2 := HB2.out.frozen n
    have HS := Lib.hid (sum_eq HB2.out)
    have HO3 := Lib.hid (HO2.out.set n (.int .u64 (addC x y n : Int)))
    go_wp2_with fail
    refine (norm_any' g 0 (n + 1) c hc (by have := HG.out; have := hv9.out; omega) _ _ (put0 HS.out hc)).mono ?_; rintro e w4 ⟨k, rfl, hk, rfl⟩
    go_wp2
    go_ret
    exact ⟨_, rfl, natR_of HBl.out ((Only.refl w1 g).drewN 1 |>.trans HO3.out) HS.out (sumRow_wds WX.out WY.out) (sumRow_num x y n n (Nat.le_refl _)) hk hc HG.out⟩

set_option maxHeartbeats 2000000 in
theorem add_gt (v : Value) (g0 c0 gx cx gy cy n m : Nat) (x y : Nat → Nat) (w : World) (hv : Old w v g0 c0) (hx : WR w gx 0 m x) (hX : ∃ cs, w.heap[gx]? = some (.cells cs 71 (0, 0))) (hgx : gx = g0 → cx = c0) (hy : WR w gy 0 n y) (wx : Wds x m) (wy : Wds y n) (h1 : 1 ≤ n) (hnm : n < m) (hn : m ≤ 800000) (hcx : m ≤ cx) (hcy : n ≤ cy) (hc0 : c0 ≤ 1000000) :
    Calls Tryz.prog 50 #[v, .slice (some ⟨gx, 0, none⟩) m cx, .slice (some ⟨gy, 0, none⟩) n cy] w fun e w' => ∃ r, e = .returned r ∧ NatR w w' r g0 c0 (m + 1) (num x m + num y n) := by
  have HM := Lib.hid (make_any v g0 c0 (m + 1) (by omega) (by omega) w hv)
  rw [show ((m + 1 : Nat) : Int) = (m : Int) + 1 by omega] at HM
  have HX := Lib.hid hx
  have HY := Lib.hid hy
  have WX := Lib.hid wx
  have WY := Lib.hid wy
  have HXX := Lib.hid hX
  have HGX := Lib.hid hgx
  have lgx : gx < w.heap.size := cell_lt (hx 0 (by omega))
  have n0 : ¬ ((n : Int) = 0) := by omega
  have m0 : ¬ ((m : Int) = 0) := by omega
  have hv9 := Lib.hid hc0
  have wc : addC x y n < 18446744073709551616 := by
    have := addC_le (wx.le (Nat.le_of_lt hnm)) wy
    omega
  have d1 : (n : Int) < (m : Int) := by omega
  have d2 : ¬ ((m : Int) < (n : Int)) := by omega
  clear hv hx hy wx wy hc0 hX hgx
  go_enter Tryz.func50, Tryz.ntmps50
  go_wp2_with fail
  refine HM.out.mono ?_; rintro e w1 ⟨r, rfl, g, c, f, rfl, hb, hc, hg, hB⟩
  have HG := Lib.hid hg
  have HBl := Lib.hid hB
  have hcn : n + (m - n) ≤ c := by omega
  have HV := Lib.hid (addVV_any g 0 c gx 0 cx gy 0 cy n c x y f w1.drew (hb.drewN 1) (by omega) (fun j hj => (HX.out.old hB) j (by omega)) (fun j hj => (HY.out.old hB) j hj) (WX.out.le (by omega)) WY.out (Or.inr rfl) (Or.inr rfl) (by omega))
  have HX1 : Hid (∀ w2, Blk w2 g c (put f 0 n (addW x y)) → Only w1.drew w2 g → WR w2.drew gx n (m - n) (fun i => x (n + i)) ∧ ∃ cs, w2.drew.heap[gx]? = some (.cells cs 71 (0, 0))) := Lib.hid (fun w2 hb2 ho2 => by
    have hx1 : WR w1.drew gx 0 m x := fun j hj => (HX.out.old hB) j hj
    refine ⟨fun j hj => ?_, ?_⟩
    · have r := row_keep hx1 (hb.drewN 1) hb2 ho2 (Or.inr rfl) (show 0 + m ≤ c by omega) (n + j) (by omega) (by omega)
      rw [Nat.zero_add] at r
      exact r
    · by_cases e : gx = g
      · subst e
        obtain ⟨cs, h, _⟩ := hb2
        exact ⟨cs, h⟩
      · obtain ⟨cs, h⟩ := HXX.out
        refine ⟨cs, ?_⟩
        show w2.heap[gx]? = _
        rw [ho2.2.1 gx e]
        show w1.heap[gx]? = _
        rw [hB.block gx lgx]; exact h)
  have HAL : Hid (gx ≠ g ∨ cx = c) := Lib.hid (by
    by_cases e : gx = g
    · rcases hg with ⟨h1, h2⟩ | ⟨h1, _⟩
      · exact Or.inr (by rw [HGX.out (e.trans h1), h2])
      · omega
    · exact Or.inl e)
  obtain ⟨a1, ea1, s1⟩ := slice_part 34 Tryz.underlying34 g 0 (m + 1) c n m (by omega) (by omega)
  obtain ⟨a2, ea2, s2⟩ := slice_from 34 Tryz.underlying34 gx 0 m cx n (by omega)
  obtain rfl : a1 = ⟨g, n, none⟩ := by have := ea1 (by omega); rw [Nat.zero_add] at this; exact this
  obtain rfl : a2 = ⟨gx, n, none⟩ := by have := ea2 (by omega); rw [Nat.zero_add] at this; exact this
  have hnc : (n : Int) ≤ (c : Int) := by omega
  have hnx : (n : Int) ≤ (cx : Int) := by omega
  have hny : (n : Int) ≤ (cy : Int) := by omega
  clear hb hB hg ea1 ea2
  go_wp2_with fail
  go_region_with (go_at_call 23; refine HV.out.mono ?_; rintro e w2 ⟨rfl, hb2, ho2⟩)
  all_goals
    have HB2 := Lib.hid hb2
    have HO2 := Lib.hid ho2
    have HQ := Lib.hid (HX1.out w2 hb2 ho2)
    have HW := Lib.hid (addVW_any g n (c - n) gx n (cx - n) (m - n) c (addC x y n) (fun i => x (n + i)) _ w2.drew (HB2.out.drewN 1) hcn HQ.out.1 (HAL.out.imp id fun h => ⟨rfl, by rw [h]⟩) HQ.out.2 (fun i hi => WX.out (n + i) (by omega)) wc (by omega) (by omega) (by omega) (by omega))
    clear hb2 ho2
    go_wp2_with fail
    go_region_with (go_at_call 44; refine HW.out.mono ?_; rintro e w3 ⟨rfl, hb3, ho3⟩)
  all_goals
    have HB3 := Lib.hid hb3
    have c3 := HB3.out.cell m (by omega)
    have f3 := HB3.out.frozen m
    have HS := Lib.hid (sum_gt hnm HB3.out)
    have HO3 := Lib.hid (((HO2.out.drewN 1).trans ho3).set m (.int .u64 (addC (fun i => x (n + i)) (one (addC x y n)) (m - n) : Int)))
    clear hb3 ho3
    go_wp2_with fail
    refine (norm_any' g 0 (m + 1) c hc (by have := HG.out; have := hv9.out; omega) _ _ (put0 HS.out hc)).mono ?_; rintro e w4 ⟨k, rfl, hk, rfl⟩
    go_wp2
    go_ret
    exact ⟨_, rfl, natR_of HBl.out ((Only.refl w1 g).drewN 1 |>.trans HO3.out) HS.out (sumRow_wds WX.out WY.out) (sumRow_num x y n m (by omega)) hk hc HG.out⟩
/-- A row that is there: its block, and its words. -/
structure Row (w : World) (g c n : Nat) (x : Nat → Nat) : Prop where
  wr : WR w g 0 n x
  obj : ∃ cs, w.heap[g]? = some (.cells cs 71 (0, 0))
  wds : Wds x n
  one : 1 ≤ n
  cap : n ≤ c
  small : n ≤ 800000

theorem add_any (v : Value) (g0 c0 gx cx m gy cy n : Nat) (x y : Nat → Nat) (w : World) (hv : Old w v g0 c0) (hx : Row w gx cx m x) (hy : Row w gy cy n y) (hgx : gx = g0 → cx = c0) (hgy : gy = g0 → cy = c0) (hc0 : c0 ≤ 1000000) :
    Calls Tryz.prog 50 #[v, .slice (some ⟨gx, 0, none⟩) m cx, .slice (some ⟨gy, 0, none⟩) n cy] w fun e w' => ∃ r, e = .returned r ∧ NatR w w' r g0 c0 (max m n + 1) (num x m + num y n) := by
  rcases Nat.lt_trichotomy m n with h | h | h
  · have HA := Lib.hid (add_gt v g0 c0 gy cy gx cx m n y x w hv hy.wr hy.obj hgy hx.wr hy.wds hx.wds hx.one h hy.small hy.cap hx.cap hc0)
    rw [Nat.max_eq_right (by omega), Nat.add_comm (num x m)]
    have d : (m : Int) < (n : Int) := by omega
    clear hv hx hy hgx hgy
    go_enter Tryz.func50, Tryz.ntmps50
    go_wp2_with fail
    refine HA.out.mono ?_; rintro e w1 ⟨r, rfl, hr⟩
    have HR := Lib.hid hr
    clear hr
    go_wp2
    go_ret
    exact ⟨r, rfl, HR.out⟩
  · subst h
    rw [Nat.max_self]
    exact add_eq v g0 c0 gx cx gy cy m x y w hv hx.wr hy.wr hx.wds hy.wds hx.one hx.small hx.cap hy.cap hc0
  · rw [Nat.max_eq_left (by omega)]
    exact add_gt v g0 c0 gx cx gy cy n m x y w hv hx.wr hx.obj hgx hy.wr hx.wds hy.wds hy.one h hx.small hx.cap hy.cap hc0
end Go.Proofs.YtmkdcnemocdefaaGreatFmt
