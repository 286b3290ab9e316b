/- GroundOf of package meridianref4 at a picture that is one. -/
import Derived.Test.YthbekddpnkammaaDoorGrdR
namespace Go.Proofs.YthbekddpnkammaaDoor
open Go.RowKit

/-- The ground of the tiles ahead of k. -/
def grdL (W T : Nat) (f : Nat → Int) (n : Nat) : Nat → List Int
  | 0 => []
  | k + 1 => grdL W T f n k ++ [medL (tlL (tkF W T) f k n)]
theorem grdL_succ (W T : Nat) (f : Nat → Int) (n k : Nat) : grdL W T f n (k + 1) = grdL W T f n k ++ [medL (tlL (tkF W T) f k n)] := rfl
theorem grdL_len (W T : Nat) (f : Nat → Int) (n k : Nat) : (grdL W T f n k).length = k := by
  induction k with
  | zero => rfl
  | succ k ih => rw [grdL_succ, List.length_append, ih]; rfl
theorem tiles_le (n : Nat) {T : Nat} (hT : 1 ≤ T) : tilesN n T ≤ n := by
  unfold tilesN
  by_cases h : n = 0
  · subst h
    rw [Nat.div_eq_of_lt (by omega)]
    exact Nat.le_refl _
  · have : (n + T - 1) / T < n + 1 := by
      rw [Nat.div_lt_iff_lt_mul (by omega), Nat.succ_mul]
      have := Nat.le_mul_of_pos_right n hT
      omega
    omega
theorem tile_all {W H T r c v : Nat} (f : Nat → Int) (hW : 0 < W) (hT : 0 < T) (hc : c < tilesN W T) (hv : v = r * T + T ∨ v = H) (hvH : v ≤ H) :
    tlL (tkF W T) f (r * tilesN W T + c) (v * W + c * T) = tlL (tkF W T) f (r * tilesN W T + c) (H * W) := by
  have hcw := tiles_at hT hc
  by_cases h : v = H
  · subst h
    refine tlL_skip (by omega) (fun j h1 h2 => ?_)
    rw [Ne, tk_iff hW hT hc]
    rintro ⟨_, h5, h6⟩
    have e := Nat.div_add_mod j W
    rw [Nat.mul_comm] at e
    have hv : j / W = v := by
      have a : v ≤ j / W := (Nat.le_div_iff_mul_le hW).2 (by omega)
      have b : j / W < v + 1 := (Nat.div_lt_iff_lt_mul hW).2 (by rw [Nat.succ_mul]; omega)
      omega
    rw [hv] at e
    omega
  · have hlt : v < H := by omega
    have h2 := Nat.mul_le_mul_right W (show v + 1 ≤ H by omega)
    rw [Nat.succ_mul] at h2
    have h3 := tile_end (r := r) f hW hT hc hv hvH (by omega : v = H ∨ v < H)
    rw [Nat.min_eq_left (by omega)] at h3
    exact h3.symm
theorem tiles_done {n T r Y : Nat} (hY : Y = r * T) (hT : 0 < T) (h : r ≤ tilesN n T) (h2 : ¬ Y < n) : r = tilesN n T := by
  by_cases c : r < tilesN n T
  · have := tiles_at hT c
    omega
  · omega
theorem tiles_more {n T r Y : Nat} (hY : Y = r * T) (hT : 0 < T) (h : Y < n) : r < tilesN n T := by
  have := tiles_lt hT h
  rwa [hY, Nat.mul_div_cancel _ hT] at this
set_option maxRecDepth 10000 in
set_option maxHeartbeats 4000000 in
theorem groundOf_ok (W H T : Nat) (f : Nat → Int) (b o : Nat) (a : Option Addr) (n cap : Nat) (w : World) (hp : PicAt w b o W H a n cap f) (g : picG W H n f) (hT : 1 ≤ T) (hT2 : T ≤ 256) :
    Calls Tryd.prog 11 #[.pointer (some ⟨b, o, none⟩), .int .i64 T] w fun e w' =>
      ∃ ga gc, e = .returned (.tuple #[.slice ga (tilesN W T * tilesN H T) gc, .int .i64 0]) ∧ IRow w' ga (tilesN W T * tilesN H T) (fun k => (grdL W T f n (tilesN W T * tilesN H T)).getD k 0) ∧ Below w.heap.size w w' := by
  obtain ⟨i0, hi, hz0, hz1, hz2⟩ := info_parts info_int'
  have HV := Lib.hid (picE_ok b o W H f a n cap w hp g)
  obtain ⟨n1, n2⟩ := area_bd g
  obtain ⟨w1, w2, h1, h2, c4, hc⟩ := g
  have hn : n = H * W := by
    have : (n : Int) = ((W * H : Nat) : Int) := by rw [c4]; push_cast; rfl
    rw [Nat.mul_comm]; omega
  have HNN := Lib.hid hn
  have HA := Lib.hid (fun j (hj : j < n) => hp.2.2.2.at hj)
  have HC := Lib.hid hc
  have hpl := cell_lt hp.1
  have HPi := Lib.hid hp
  clear hp hc hn c4
  go_enter Tryd.func11, Tryd.ntmps11
  go_wp2_with fail
  refine HV.out.mono ?_; rintro e wa ⟨rfl, hb1⟩
  have HB := Lib.hid hb1
  clear hb1 HV
  have d1 : decide ((T : Int) < 1) = false := by simp; omega
  have d2 : decide ((256 : Int) < (T : Int)) = false := by simp; omega
  go_wp2
  go_loopw [7, 8] (fun v y wr => ∃ r Y : Nat, Hid (Y = r * T) ∧ y = .int .i64 Y ∧ r ≤ tilesN H T ∧ Y ≤ H + T ∧ Hid (Gath wa v (grdL W T f n (r * tilesN W T)) wr)) (fun _ y _ => H + T - (intOf y).toNat)
  case atStart => exact ⟨0, 0, Lib.hid (Nat.zero_mul _).symm, rfl, Nat.zero_le _, Nat.zero_le _, Lib.hid (by rw [Nat.zero_mul]; exact Gath.nil wa)⟩
  case round =>
    obtain ⟨r, Y, hY, rfl, hr, hYH, hG⟩ := hrel
    have hq := HPi.out.below (below_step HB.out hG.out.2)
    have q0 := hq.1
    have q1 := hq.2.1
    clear hq
    by_cases hyt : Y < H
    · have hrt := tiles_more hY.out hT hyt
      go_wp2
      go_loopw [7, 9] (fun v x wr => ∃ c X : Nat, Hid (X = c * T) ∧ x = .int .i64 X ∧ c ≤ tilesN W T ∧ X ≤ W + T ∧ Hid (Gath wa v (grdL W T f n (r * tilesN W T + c)) wr)) (fun _ x _ => W + T - (intOf x).toNat)
      case atStart => exact ⟨0, 0, Lib.hid (Nat.zero_mul _).symm, rfl, Nat.zero_le _, Nat.zero_le _, hG⟩
      case round =>
        clear hG q0 q1
        obtain ⟨c, X, hX, rfl, hct, hXW, hG⟩ := hrel
        have hq := HPi.out.below (below_step HB.out hG.out.2)
        have q0 := hq.1
        have q1 := hq.2.1
        clear hq
        by_cases hxt : X < W
        · have hc2 := tiles_more hX.out hT hxt
          have HST : Hid (tlL (tkF W T) f (r * tilesN W T + c) (Y * W + X) = []) := Lib.hid (by rw [hY.out, hX.out]; exact tile_start f (by omega) (by omega) hc2)
          have HHI : Hid (∀ v u, Y ≤ v → v < Y + T → X ≤ u → u < X + T → u < W → tlL (tkF W T) f (r * tilesN W T + c) (v * W + u + 1) = tlL (tkF W T) f (r * tilesN W T + c) (v * W + u) ++ [f (v * W + u)]) := Lib.hid (fun v u a1 a2 a3 a4 a5 => tile_hit f (by omega) (by omega) hc2 (by rw [← hY.out]; exact a1) (by rw [← hY.out]; exact a2) (by rw [← hX.out]; exact a3) (by rw [← hX.out]; exact a4) a5)
          have HRO : Hid (∀ v u, (u = X + T ∨ u = W) → u ≤ W → X ≤ u → tlL (tkF W T) f (r * tilesN W T + c) ((v + 1) * W + X) = tlL (tkF W T) f (r * tilesN W T + c) (v * W + u)) := Lib.hid (fun v u a1 a2 a3 => by
            have := tile_row (r := r) (v := v) f (by omega) (by omega : 0 < T) hc2 (by rw [← hX.out]; exact a1) a2 (by rw [← hX.out]; exact a3)
            rw [← hX.out] at this; exact this)
          have HEN : Hid (∀ v, (v = Y + T ∨ v = H) → v ≤ H → tlL (tkF W T) f (r * tilesN W T + c) (v * W + X) = tlL (tkF W T) f (r * tilesN W T + c) n) := Lib.hid (fun v a1 a2 => by
            rw [hX.out, HNN.out]; exact tile_all f (by omega) (by omega) hc2 (by rw [← hY.out]; exact a1) a2)
          have HPO : Hid (0 < (tlL (tkF W T) f (r * tilesN W T + c) n).length) := Lib.hid (by
            have hmul := Nat.mul_le_mul_right W (show Y + 1 ≤ H by omega)
            rw [Nat.succ_mul, ← HNN.out] at hmul
            obtain ⟨e1, e2⟩ := row_at (v := Y) hxt
            exact tlL_pos (i := Y * W + X) (by omega) ((tk_iff (by omega) (by omega) hc2).2 (by rw [e1, e2, ← hY.out, ← hX.out]; exact ⟨⟨Nat.le_refl _, by omega⟩, Nat.le_refl _, by omega⟩)))
          have HLE := Lib.hid (tlL_len (q := tkF W T) (f := f) (k := r * tilesN W T + c) n)
          have HGS := Lib.hid (grdL_succ W T f n (r * tilesN W T + c))
          have HKA : Hid (r * tilesN W T + (c + 1) = r * tilesN W T + c + 1) := Lib.hid rfl
          have hkb : r * tilesN W T + c < 70000 := by
            have t1 := tiles_le W hT
            have t2 := tiles_le H hT
            have := Nat.mul_le_mul (show r ≤ 256 by omega) (show tilesN W T ≤ 256 by omega)
            omega
          have HGL := Lib.hid (grdL_len W T f n (r * tilesN W T + c))
          generalize wr = wb at *
          generalize r * tilesN W T + c = k at *
          have hXn : ((X : Nat) : Int) + (T : Int) = ((X + T : Nat) : Int) := by omega
          have hYn : ((Y : Nat) : Int) + (T : Int) = ((Y + T : Nat) : Int) := by omega
          have bX : X < X + T ∧ X + T ≤ 512 := by omega
          have bY : Y < Y + T ∧ Y + T ≤ 512 := by omega
          have HXT : Hid (X + T = (c + 1) * T) := Lib.hid (by rw [Nat.succ_mul, hX.out])
          have HXW : Hid (X + T ≤ W + T) := Lib.hid (by omega)
          generalize X + T = XT at *
          generalize Y + T = YT at *
          obtain ⟨bX1, bX2⟩ := bX
          obtain ⟨bY1, bY2⟩ := bY
          go_wp2
          go_loopw [10, 11] (fun l y wr => ∃ v : Nat, y = .int .i64 v ∧ Y ≤ v ∧ v ≤ YT ∧ v ≤ H ∧ Hid (Gath wb l (tlL (tkF W T) f k (v * W + X)) wr)) (fun _ y _ => H - (intOf y).toNat)
          case atStart => exact ⟨Y, rfl, Nat.le_refl _, by omega, by omega, Lib.hid (by rw [HST.out]; exact Gath.nil wb)⟩
          case round =>
            clear q0 q1
            obtain ⟨v, rfl, hv1, hv2, hv3, hL⟩ := hrel
            have hq := HPi.out.below (below_step (below_step HB.out hG.out.2) hL.out.2)
            have q0 := hq.1
            have q1 := hq.2.1
            clear hq
            have HENv := Lib.hid (HEN.out v)
            have HROv := Lib.hid (HRO.out v)
            have HHIv := Lib.hid (HHI.out v)
            have hstop : (v < YT ∧ v < H) ∨ ¬ v < YT ∨ (v < YT ∧ ¬ v < H) := by omega
            rcases hstop with ⟨hvt, hvH⟩ | hvs | ⟨hvt, hvs⟩
            · have hmul := Nat.mul_le_mul_right W (show v + 1 ≤ H by omega)
              rw [Nat.succ_mul, ← HNN.out] at hmul
              have HSU : Hid ((v + 1) * W = v * W + W) := Lib.hid (Nat.succ_mul _ _)
              have hJ : (v : Int) * (W : Int) = ((v * W : Nat) : Int) := by push_cast; rfl
              generalize v * W = J at *
              go_wp2
              go_loopw [10, 12] (fun l x wr => ∃ u : Nat, x = .int .i64 u ∧ X ≤ u ∧ u ≤ XT ∧ u ≤ W ∧ Hid (Gath wb l (tlL (tkF W T) f k (J + u)) wr)) (fun _ x _ => W - (intOf x).toNat)
              case atStart => exact ⟨X, rfl, Nat.le_refl _, by omega, by omega, hL⟩
              case round =>
                clear hL q0 q1
                obtain ⟨u, rfl, hu1, hu2, hu3, hL⟩ := hrel
                have hq := HPi.out.below (below_step (below_step HB.out hG.out.2) hL.out.2)
                have q0 := hq.1
                have q2 := hq.2.2.1
                clear hq
                have hstop : (u < XT ∧ u < W) ∨ ¬ u < XT ∨ (u < XT ∧ ¬ u < W) := by omega
                rcases hstop with ⟨hut, huW⟩ | hus | ⟨hut, hus⟩
                · have hkn : J + u < n := by omega
                  obtain ⟨ba, oa, e1, hbal, ck⟩ := HA.out (J + u) hkn
                  subst e1
                  have hsb := (below_step HB.out hG.out.2).size
                  have ckr : wr.cell? ⟨ba, oa + (J + u), none⟩ = some (.int .i64 (f (J + u))) := by rw [(below_step (below_step HB.out hG.out.2) hL.out.2).cell (p := ⟨ba, oa + (J + u), none⟩) hbal]; exact ck
                  have HIT := Lib.hid (HHIv.out u hv1 hvt hu1 hut huW)
                  have HL1 := Lib.hid (tlL_len (q := tkF W T) (f := f) (k := k) (J + u))
                  have hll := HL1.out
                  clear HL1
                  have HK1 : Hid (J + (u + 1) = J + u + 1) := Lib.hid (by omega)
                  have hidx : (J : Int) + (u : Int) = ((J + u : Nat) : Int) := by omega
                  generalize J + u = K at *
                  generalize tlL (tkF W T) f k K = L at *
                  have hne1 : (u10).ownBlock ≠ some b := fun e => by have := (hL.out.1.lt b e).1; omega
                  have hne2 : (u10).ownBlock ≠ some ba := fun e => by have := (hL.out.1.lt ba e).1; omega
                  have hlb : b < wr.heap.size := cell_lt q0
                  have hla : ba < wr.heap.size := cell_lt ckr
                  have hsz3 := hL.out.2.size
                  generalize f K = x at *
                  have ew0 : IntKind.i64.wrap (J : Int) = (J : Int) := IntWalk.i64_in _ (by omega)
                  have ew1 : IntKind.i64.wrap ((v : Int) * (W : Int)) = (J : Int) := by rw [hJ]; exact ew0
                  have ew3 : IntKind.i64.wrap (K : Int) = (K : Int) := IntWalk.i64_in _ (by omega)
                  have ew2 : IntKind.i64.wrap ((J : Int) + (u : Int)) = (K : Int) := by rw [hidx]; exact ew3
                  have r0 : (0 : Int) ≤ (K : Int) := by omega
                  have r1 : (K : Int) < (n : Int) := by omega
                  have r4 : ((K : Int)).toNat = K := by omega
                  go_wp2
                  go_region_held_law (fun w' => w'.cell? ⟨b, o, none⟩ = some (.int .i64 W) ∧ w'.cell? ⟨b, o + 2, none⟩ = some (.slice (some ⟨ba, oa, none⟩) n cap) ∧ w'.cell? ⟨ba, oa + K, none⟩ = some (.int .i64 x))
                    (first
                      | go_keep
                      | (go_split_ands
                         refine ⟨?_, ?_, ?_⟩
                         · (rw [hgrow.cell_far _ (by simp; omega) (Ne.symm hne1)]; assumption)
                         · (rw [hgrow.cell_far _ (by simp; omega) (Ne.symm hne1)]; assumption)
                         · (rw [hgrow.cell_far _ (by simp; omega) (Ne.symm hne2)]; assumption)))
                    ((refine step_append_lies _ (by rfl) _ _ _ (by rfl) wb.heap.size 3 i0 _ 1 8 Tryd.underlying26 hi hz0 hz1 hz2 rfl (by omega) u10 L.length (L.map (Value.int .i64)) (by rfl) ((hL.out.1.alloc _).drew) ⟨wr.heap.size, 0, none⟩ 1 1 [.int .i64 x] (by rfl) (by rfl) (World.news_of_block (cs := #[.int .i64 x]) (t := 3) (fr := (0, 0)) (heap_alloc_new wr _)) (by simp [Value.oneCell']) (by omega) (by unfold maxLen; omega) (by omega) (by simp; omega) (wr.heap.size + 1) (by simp) ?_; intro gg cap4 w4 hown hgrow hat hlt))
                  have R := Lib.hid (Gath.step (x := x) (hL.out.below (Below.refl _ _).drew) hown hgrow)
                  clear hown hgrow hat hlt hne1 hne2 hL
                  go_wp2
                  go_roundw
                  case rel => exact ⟨u + 1, by go_num, by omega, by omega, by omega, Lib.hid (by rw [HK1.out, HIT.out]; exact R.out)⟩
                  case measure => simp [intOf]; omega
                · have HR := Lib.hid (HROv.out u (Or.inl (by omega)) hu3 hu1)
                  go_wp2
                  go_roundw
                  case rel => exact ⟨v + 1, by go_num, by omega, by omega, by omega, Lib.hid (by rw [HR.out]; exact hL.out)⟩
                  case measure => simp [intOf]; omega
                · have HR := Lib.hid (HROv.out u (Or.inr (by omega)) hu3 hu1)
                  go_wp2
                  go_roundw
                  case rel => exact ⟨v + 1, by go_num, by omega, by omega, by omega, Lib.hid (by rw [HR.out]; exact hL.out)⟩
                  case measure => simp [intOf]; omega
            · have HE := Lib.hid (HENv.out (Or.inl (by omega)) hv3)
              have hL2 : Hid (Gath wb u10 (tlL (tkF W T) f k n) wr) := Lib.hid (by rw [← HE.out]; exact hL.out)
              clear hL HE
              obtain ⟨la, lc, rfl, lrow⟩ := hL2.out.row
              have hll := HLE.out
              have HMe := Lib.hid (medianOf_any (fun j => (tlL (tkF W T) f k n).getD j 0) la _ lc HPO.out (by omega) wr lrow)
              rw [upto_list] at HMe
              have HW2 := Lib.hid (below_step hG.out.2 hL2.out.2)
              have HGo := Lib.hid (hG.out.below hL2.out.2)
              clear lrow hL2 HPO HLE HEN HRO HHI HST HENv HROv HHIv
              generalize medL (tlL (tkF W T) f k n) = md at *
              generalize (tlL (tkF W T) f k n).length = Ln at *
              generalize wr = wv at *
              go_wp2_with fail
              refine HMe.out.mono ?_; rintro e w5 ⟨rfl, hb5⟩
              have HG5 := Lib.hid (HGo.out.below hb5)
              have hos := Lib.hid (fun o => World.ownsRow.alloc HG5.out.1 o)
              have hsz5 := HG5.out.2.size
              have hgl := HGL.out
              clear hb5 HMe HGo
              generalize grdL W T f n k = L7 at *
              go_wp2_with (first
                | (at_builtin; refine wpList_append_own_at _ rfl _ _ 26 rfl wa.heap.size 3 i0 (.int .i64 0) 1 8 Tryd.underlying26 hi hz0 hz1 hz2 rfl (by decide) u7 L7.length (L7.map (Value.int .i64)) rfl (hos.out _) ⟨w5.heap.size, 0, none⟩ 1 1 [.int .i64 md] rfl rfl ?c1 ?c2 ?c3 ?c4 ?c5 ?_)
                | fail)
              case c1 =>
                intro j' u hj'
                match j', hj' with
                | 0, hj' => simp at hj'; subst hj'; simp [Addr.add]
              case c2 =>
                intro u hu
                simp only [List.mem_cons, List.not_mem_nil, or_false] at hu
                subst hu; rfl
              case c3 => unfold maxLen; omega
              case c4 => omega
              case c5 => simp; omega
              intro v' w6 hown hgrow _ _
              rw [← hgl] at hown
              have R := Lib.hid (HG5.out.step hown hgrow)
              clear hown hgrow hos
              go_wp2
              go_roundw
              case rel => exact ⟨c + 1, XT, HXT, by go_num, by omega, HXW.out, Lib.hid (by rw [HKA.out, HGS.out]; exact R.out)⟩
              case measure => simp [intOf]; omega
            · have HE := Lib.hid (HENv.out (Or.inr (by omega)) hv3)
              have hL2 : Hid (Gath wb u10 (tlL (tkF W T) f k n) wr) := Lib.hid (by rw [← HE.out]; exact hL.out)
              clear hL HE
              obtain ⟨la, lc, rfl, lrow⟩ := hL2.out.row
              have hll := HLE.out
              have HMe := Lib.hid (medianOf_any (fun j => (tlL (tkF W T) f k n).getD j 0) la _ lc HPO.out (by omega) wr lrow)
              rw [upto_list] at HMe
              have HW2 := Lib.hid (below_step hG.out.2 hL2.out.2)
              have HGo := Lib.hid (hG.out.below hL2.out.2)
              clear lrow hL2 HPO HLE HEN HRO HHI HST HENv HROv HHIv
              generalize medL (tlL (tkF W T) f k n) = md at *
              generalize (tlL (tkF W T) f k n).length = Ln at *
              generalize wr = wv at *
              go_wp2_with fail
              refine HMe.out.mono ?_; rintro e w5 ⟨rfl, hb5⟩
              have HG5 := Lib.hid (HGo.out.below hb5)
              have hos := Lib.hid (fun o => World.ownsRow.alloc HG5.out.1 o)
              have hsz5 := HG5.out.2.size
              have hgl := HGL.out
              clear hb5 HMe HGo
              generalize grdL W T f n k = L7 at *
              go_wp2_with (first
                | (at_builtin; refine wpList_append_own_at _ rfl _ _ 26 rfl wa.heap.size 3 i0 (.int .i64 0) 1 8 Tryd.underlying26 hi hz0 hz1 hz2 rfl (by decide) u7 L7.length (L7.map (Value.int .i64)) rfl (hos.out _) ⟨w5.heap.size, 0, none⟩ 1 1 [.int .i64 md] rfl rfl ?c1 ?c2 ?c3 ?c4 ?c5 ?_)
                | fail)
              case c1 =>
                intro j' u hj'
                match j', hj' with
                | 0, hj' => simp at hj'; subst hj'; simp [Addr.add]
              case c2 =>
                intro u hu
                simp only [List.mem_cons, List.not_mem_nil, or_false] at hu
                subst hu; rfl
              case c3 => unfold maxLen; omega
              case c4 => omega
              case c5 => simp; omega
              intro v' w6 hown hgrow _ _
              rw [← hgl] at hown
              have R := Lib.hid (HG5.out.step hown hgrow)
              clear hown hgrow hos
              go_wp2
              go_roundw
              case rel => exact ⟨c + 1, XT, HXT, by go_num, by omega, HXW.out, Lib.hid (by rw [HKA.out, HGS.out]; exact R.out)⟩
              case measure => simp [intOf]; omega
        · obtain rfl := tiles_done hX.out (by omega) hct hxt
          have HK1 : Hid ((r + 1) * tilesN W T = r * tilesN W T + tilesN W T) := Lib.hid (Nat.succ_mul _ _)
          have HY1 : Hid (Y + T = (r + 1) * T) := Lib.hid (by rw [Nat.succ_mul, hY.out])
          go_wp2
          go_roundw
          case rel => exact ⟨r + 1, Y + T, HY1, by go_num, by omega, by omega, Lib.hid (by rw [HK1.out]; exact hG.out)⟩
          case measure => simp [intOf]; omega
    · obtain rfl := tiles_done hY.out (by omega) hr hyt
      obtain ⟨ga, gc, rfl, hrow⟩ := hG.out.row
      have HBr := Lib.hid (below_step HB.out hG.out.2)
      rw [grdL_len, Nat.mul_comm] at hrow
      rw [grdL_len, Nat.mul_comm]
      have HRW := Lib.hid hrow
      clear hG hrow
      go_wp2
      go_ret2
      exact ⟨ga, gc, rfl, HRW.out, HBr.out⟩
end Go.Proofs.YthbekddpnkammaaDoor
