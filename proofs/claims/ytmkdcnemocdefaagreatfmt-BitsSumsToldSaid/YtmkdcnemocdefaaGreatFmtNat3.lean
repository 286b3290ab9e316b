/- nat.sub. -/
import Derived.Test.YtmkdcnemocdefaaGreatFmtNat2
namespace Go.Proofs.YtmkdcnemocdefaaGreatFmt
open Go.RowKit

/-- subVW, wherever the row goes. -/
theorem subVW_any (gz oz cz gx ox cx n C y : Nat) (x f : Nat → Nat) (w : World) (hz : Blk w gz C f) (hC : oz + n ≤ C) (hx : WR w gx ox n x) (hal : gx ≠ gz ∨ ox = oz ∧ cx = cz) (hX : ∃ cs, w.heap[gx]? = some (.cells cs 71 (0, 0))) (wx : Wds x n) (h1 : 1 ≤ n) (hn : n ≤ 1000000) (hcz : n ≤ cz) (hcx : n ≤ cx) :
    Calls Tryz.prog 68 #[.slice (some ⟨gz, oz, none⟩) n cz, .slice (some ⟨gx, ox, none⟩) n cx, .int .u64 (y : Int)] w fun e w' =>
      e = .returned (.int .u64 (subC x (one y) n : Int)) ∧ Blk w' gz C (put f oz n (subW x (one y))) ∧ Only w w' gz := by
  by_cases e : gx = gz
  · subst e
    obtain ⟨rfl, rfl⟩ : ox = oz ∧ cx = cz := by
      rcases hal with h | h
      · exact absurd rfl h
      · exact h
    exact subVW_same gx ox cx n C y x f w hz hC hx wx h1 hn
  · exact subVW_far gz oz cz gx ox cx n C y x f w hz hC hx e hX wx h1 hn hcz hcx
theorem subC_pad (x y : Nat → Nat) (n : Nat) : ∀ i, i ≤ n → subC x y i = subC x (pad y n) i
  | 0, _ => rfl
  | i + 1, h => by rw [subC, subC, subC_pad x y n i (by omega), pad_in y n i (by omega)]
theorem subW_pad (x y : Nat → Nat) (n i : Nat) (h : i < n) : subW x y i = subW x (pad y n) i := by
  unfold subW; rw [subC_pad x y n i (by omega), pad_in y n i h]
theorem subC_tail (x y : Nat → Nat) (n : Nat) : ∀ j, subC (fun i => x (n + i)) (one (subC x y n)) (j + 1) = subC x (pad y n) (n + j + 1)
  | 0 => by
    rw [subC, subC, subC, one_at, Nat.add_zero, Nat.add_zero, pad_out y n n (Nat.le_refl _), subC_pad x y n n (Nat.le_refl _), Nat.zero_add]
  | j + 1 => by
    rw [subC, subC_tail x y n j, one_off]
    show (if x (n + j + 1) < 0 + subC x (pad y n) (n + j + 1) then 1 else 0) = (if x (n + j + 1) < pad y n (n + j + 1) + subC x (pad y n) (n + j + 1) then 1 else 0)
    rw [pad_out y n (n + j + 1) (by omega)]
theorem subW_tail (x y : Nat → Nat) (n j : Nat) : subW (fun i => x (n + i)) (one (subC x y n)) j = subW x (pad y n) (n + j) := by
  cases j with
  | zero =>
    unfold subW
    rw [subC, one_at, pad_out y n (n + 0) (by omega), ← subC_pad x y n (n + 0) (by omega)]
    rfl
  | succ j =>
    unfold subW
    rw [subC_tail x y n j, one_off, pad_out y n (n + (j + 1)) (by omega)]
    rfl
/-- Nothing is borrowed at the end. -/
theorem sub_end {x y : Nat → Nat} {n m : Nat} (hx : Wds x m) (hy : Wds y n) (h : n ≤ m) (hle : num y n ≤ num x m) : subC x (pad y n) m = 0 ∧ num (subW x (pad y n)) m = num x m - num y n := by
  have s := subW_num hx (pad_wds (m := m) hy)
  rw [pad_num y n m h] at s
  have l := num_lt (subW_wds x (pad y n) m)
  have b := subC_le x (pad y n) m
  rcases Nat.eq_zero_or_pos (subC x (pad y n) m) with e | e
  · rw [e, Nat.zero_mul] at s
    exact ⟨e, by omega⟩
  · have e1 : subC x (pad y n) m = 1 := by omega
    rw [e1, Nat.one_mul] at s
    omega
/-- Two lengths: what the block holds. -/
theorem dif_gt {w : World} {g C n m : Nat} {f x y : Nat → Nat} (hnm : n < m) (h : Blk w g C (put (put f 0 n (subW x y)) n (m - n) (subW (fun i => x (n + i)) (one (subC x y n))))) :
    Blk w g C (put f 0 m (subW x (pad y n))) := by
  refine h.congr fun j _ => ?_
  rcases Nat.lt_or_ge j m with a | a
  · rw [put0_in _ _ _ _ a]
    rcases Nat.lt_or_ge j n with b | b
    · rw [put_out _ _ _ _ _ (Or.inl b), put0_in _ _ _ _ b, subW_pad x y n j b]
    · obtain ⟨d, rfl⟩ : ∃ d, j = n + d := ⟨j - n, by omega⟩
      rw [put_in _ _ _ _ _ (by omega), subW_tail]
  · rw [put0_out f m _ j a, put_out _ n (m - n) _ j (by omega), put0_out f n _ j (by omega)]
theorem dif_eq {w : World} {g C n : Nat} {f x y : Nat → Nat} (h : Blk w g C (put f 0 n (subW x y))) : Blk w g C (put f 0 n (subW x (pad y n))) := by
  refine h.congr fun j _ => ?_
  rcases Nat.lt_or_ge j n with a | a
  · rw [put0_in _ _ _ _ a, put0_in _ _ _ _ a, subW_pad x y n j a]
  · rw [put0_out f n _ j a, put0_out f n _ j a]

set_option maxHeartbeats 2000000 in
theorem sub_eq (v : Value) (g0 c0 gx cx gy cy n : Nat) (x y : Nat → Nat) (w : World) (hv : Old w v g0 c0) (hx : WR w gx 0 n x) (hy : WR w gy 0 n y) (wx : Wds x n) (wy : Wds y n) (h1 : 1 ≤ n) (hn : n ≤ 800000) (hcx : n ≤ cx) (hcy : n ≤ cy) (hc0 : c0 ≤ 1000000) (hle : num y n ≤ num x n) :
    Calls Tryz.prog 53 #[v, .slice (some ⟨gx, 0, none⟩) n cx, .slice (some ⟨gy, 0, none⟩) n cy] w fun e w' => ∃ r, e = .returned r ∧ NatR w w' r g0 c0 n (num x n - num y n) := by
  have HM := Lib.hid (make_any v g0 c0 n (by omega) (by omega) w hv)
  have HX := Lib.hid hx
  have HY := Lib.hid hy
  have WX := Lib.hid wx
  have WY := Lib.hid wy
  have n0 : ¬ ((n : Int) = 0) := by omega
  have hv9 := Lib.hid hc0
  have HE := Lib.hid (sub_end wx wy (Nat.le_refl n) hle)
  have c9 : ((subC x y n : Nat) : Int) = 0 := by rw [subC_pad x y n n (Nat.le_refl _), HE.out.1]; rfl
  clear hv hx hy wx wy hc0 hle
  go_enter Tryz.func53, Tryz.ntmps53
  go_wp2_with fail
  refine HM.out.mono ?_; rintro e w1 ⟨r, rfl, g, c, f, rfl, hb, hc, hg, hB⟩
  have HG := Lib.hid hg
  have HBl := Lib.hid hB
  have HV := Lib.hid (subVV_any g 0 c gx 0 cx gy 0 cy n c x y f w1.drew (hb.drewN 1) (by omega) (fun j hj => (HX.out.old hB) j hj) (fun j hj => (HY.out.old hB) j hj) (Or.inr rfl) (Or.inr rfl) (by omega))
  have hnc : (n : Int) ≤ (c : Int) := by omega
  have hnx : (n : Int) ≤ (cx : Int) := by omega
  have hny : (n : Int) ≤ (cy : Int) := by omega
  clear hb hB hg
  go_wp2_with fail
  go_region_with (go_at_call 24; refine HV.out.mono ?_; rintro e w2 ⟨rfl, hb2, ho2⟩)
  all_goals
    have HB2 := Lib.hid hb2
    have HO2 := Lib.hid ho2
    clear hb2 ho2
    have HS := Lib.hid (dif_eq HB2.out)
    go_wp2_with fail
    refine (norm_any' g 0 n c hc (by have := HG.out; have := hv9.out; omega) _ _ (put0 HS.out hc)).mono ?_; rintro e w4 ⟨k, rfl, hk, rfl⟩
    go_wp2
    go_ret
    exact ⟨_, rfl, natR_of HBl.out ((Only.refl w1 g).drewN 1 |>.trans HO2.out) HS.out (subW_wds _ _ n) HE.out.2 hk hc HG.out⟩

set_option maxHeartbeats 2000000 in
theorem sub_gt (v : Value) (g0 c0 gx cx gy cy n m : Nat) (x y : Nat → Nat) (w : World) (hv : Old w v g0 c0) (hx : WR w gx 0 m x) (hX : ∃ cs, w.heap[gx]? = some (.cells cs 71 (0, 0))) (hgx : gx = g0 → cx = c0) (hy : WR w gy 0 n y) (wx : Wds x m) (wy : Wds y n) (h1 : 1 ≤ n) (hnm : n < m) (hn : m ≤ 800000) (hcx : m ≤ cx) (hcy : n ≤ cy) (hc0 : c0 ≤ 1000000) (hle : num y n ≤ num x m) :
    Calls Tryz.prog 53 #[v, .slice (some ⟨gx, 0, none⟩) m cx, .slice (some ⟨gy, 0, none⟩) n cy] w fun e w' => ∃ r, e = .returned r ∧ NatR w w' r g0 c0 m (num x m - num y n) := by
  have HM := Lib.hid (make_any v g0 c0 m (by omega) (by omega) w hv)
  have HX := Lib.hid hx
  have HY := Lib.hid hy
  have WX := Lib.hid wx
  have WY := Lib.hid wy
  have HXX := Lib.hid hX
  have HGX := Lib.hid hgx
  have lgx : gx < w.heap.size := cell_lt (hx 0 (by omega))
  have n0 : ¬ ((n : Int) = 0) := by omega
  have m0 : ¬ ((m : Int) = 0) := by omega
  have hv9 := Lib.hid hc0
  have HE := Lib.hid (sub_end wx wy (Nat.le_of_lt hnm) hle)
  have c9 : ((subC (fun i => x (n + i)) (one (subC x y n)) (m - n) : Nat) : Int) = 0 := by
    obtain ⟨d, hd⟩ : ∃ d, m - n = d + 1 := ⟨m - n - 1, by omega⟩
    rw [hd, subC_tail, show n + d + 1 = m by omega, HE.out.1]; rfl
  have d1 : (n : Int) < (m : Int) := by omega
  have d2 : ¬ ((m : Int) < (n : Int)) := by omega
  clear hv hx hy wx wy hc0 hX hgx hle
  go_enter Tryz.func53, Tryz.ntmps53
  go_wp2_with fail
  refine HM.out.mono ?_; rintro e w1 ⟨r, rfl, g, c, f, rfl, hb, hc, hg, hB⟩
  have HG := Lib.hid hg
  have HBl := Lib.hid hB
  have hcn : n + (m - n) ≤ c := by omega
  have HV := Lib.hid (subVV_any g 0 c gx 0 cx gy 0 cy n c x y f w1.drew (hb.drewN 1) (by omega) (fun j hj => (HX.out.old hB) j (by omega)) (fun j hj => (HY.out.old hB) j hj) (Or.inr rfl) (Or.inr rfl) (by omega))
  have HX1 : Hid (∀ w2, Blk w2 g c (put f 0 n (subW x y)) → Only w1.drew w2 g → WR w2.drew gx n (m - n) (fun i => x (n + i)) ∧ ∃ cs, w2.drew.heap[gx]? = some (.cells cs 71 (0, 0))) := Lib.hid (fun w2 hb2 ho2 => by
    have hx1 : WR w1.drew gx 0 m x := fun j hj => (HX.out.old hB) j hj
    refine ⟨fun j hj => ?_, ?_⟩
    · have r := row_keep hx1 (hb.drewN 1) hb2 ho2 (Or.inr rfl) (show 0 + m ≤ c by omega) (n + j) (by omega) (by omega)
      rw [Nat.zero_add] at r
      exact r
    · by_cases e : gx = g
      · subst e
        obtain ⟨cs, h, _⟩ := hb2
        exact ⟨cs, h⟩
      · obtain ⟨cs, h⟩ := HXX.out
        refine ⟨cs, ?_⟩
        show w2.heap[gx]? = _
        rw [ho2.2.1 gx e]
        show w1.heap[gx]? = _
        rw [hB.block gx lgx]; exact h)
  have HAL : Hid (gx ≠ g ∨ cx = c) := Lib.hid (by
    by_cases e : gx = g
    · rcases hg with ⟨h1, h2⟩ | ⟨h1, _⟩
      · exact Or.inr (by rw [HGX.out (e.trans h1), h2])
      · omega
    · exact Or.inl e)
  obtain ⟨a1, ea1, s1⟩ := slice_from 34 Tryz.underlying34 g 0 m c n (by omega)
  obtain ⟨a2, ea2, s2⟩ := slice_from 34 Tryz.underlying34 gx 0 m cx n (by omega)
  obtain rfl : a1 = ⟨g, n, none⟩ := by have := ea1 (by omega); rw [Nat.zero_add] at this; exact this
  obtain rfl : a2 = ⟨gx, n, none⟩ := by have := ea2 (by omega); rw [Nat.zero_add] at this; exact this
  have hnc : (n : Int) ≤ (c : Int) := by omega
  have hnx : (n : Int) ≤ (cx : Int) := by omega
  have hny : (n : Int) ≤ (cy : Int) := by omega
  clear hb hB hg ea1 ea2
  go_wp2_with fail
  go_region_with (go_at_call 24; refine HV.out.mono ?_; rintro e w2 ⟨rfl, hb2, ho2⟩)
  all_goals
    have HB2 := Lib.hid hb2
    have HO2 := Lib.hid ho2
    have HQ := Lib.hid (HX1.out w2 hb2 ho2)
    have HW := Lib.hid (subVW_any g n (c - n) gx n (cx - n) (m - n) c (subC x y n) (fun i => x (n + i)) _ w2.drew (HB2.out.drewN 1) hcn HQ.out.1 (HAL.out.imp id fun h => ⟨rfl, by rw [h]⟩) HQ.out.2 (fun i hi => WX.out (n + i) (by omega)) (by omega) (by omega) (by omega) (by omega))
    clear hb2 ho2
    go_wp2_with fail
    go_region_with (go_at_call 68; refine HW.out.mono ?_; rintro e w3 ⟨rfl, hb3, ho3⟩)
  all_goals
    have HB3 := Lib.hid hb3
    have HS := Lib.hid (dif_gt hnm HB3.out)
    have HO3 := Lib.hid ((HO2.out.drewN 1).trans ho3)
    clear hb3 ho3
    go_wp2_with fail
    refine (norm_any' g 0 m c hc (by have := HG.out; have := hv9.out; omega) _ _ (put0 HS.out hc)).mono ?_; rintro e w4 ⟨k, rfl, hk, rfl⟩
    go_wp2
    go_ret
    exact ⟨_, rfl, natR_of HBl.out ((Only.refl w1 g).drewN 1 |>.trans HO3.out) HS.out (subW_wds _ _ m) HE.out.2 hk hc HG.out⟩

theorem sub_any (v : Value) (g0 c0 gx cx m gy cy n : Nat) (x y : Nat → Nat) (w : World) (hv : Old w v g0 c0) (hx : Row w gx cx m x) (hy : Row w gy cy n y) (hgx : gx = g0 → cx = c0) (hc0 : c0 ≤ 1000000) (hnm : n ≤ m) (hle : num y n ≤ num x m) :
    Calls Tryz.prog 53 #[v, .slice (some ⟨gx, 0, none⟩) m cx, .slice (some ⟨gy, 0, none⟩) n cy] w fun e w' => ∃ r, e = .returned r ∧ NatR w w' r g0 c0 m (num x m - num y n) := by
  rcases Nat.lt_or_ge n m with h | h
  · exact sub_gt v g0 c0 gx cx gy cy n m x y w hv hx.wr hx.obj hgx hy.wr hx.wds hy.wds hy.one h hx.small hx.cap hy.cap hc0 hle
  · obtain rfl : n = m := by omega
    exact sub_eq v g0 c0 gx cx gy cy n x y w hv hx.wr hy.wr hx.wds hy.wds hx.one hx.small hx.cap hy.cap hc0 hle
end Go.Proofs.YtmkdcnemocdefaaGreatFmt
