/- spots.Ground at a picture that is one: its walk. -/
import Derived.Test.YthbekddpnkammaaGreatDoorGrdR
import Derived.Test.YthbekddpnkammaaGreatDoorGrdI
import Derived.Test.YthbekddpnkammaaGreatDoorGrd
namespace Go.Proofs.YthbekddpnkammaaGreatDoor
open Go.RowKit

set_option maxRecDepth 10000 in
set_option maxHeartbeats 8000000 in
theorem ground_ok (ad : Nat → Addr) (W H T : Nat) (f : Nat → Int) (a : Option Addr) (n cap : Nat) (w : World) (he : Errs w ad [1, 4]) (h : IRow w a n f) (g : picG W H n f) (hT : 1 ≤ T) (hT2 : T ≤ 256) :
    Calls Tryz.prog 78 #[.agg #[.int .i64 W, .int .i64 H, .slice a n cap], .int .i64 T] w fun e w' =>
      ∃ ga gc, e = .returned (.tuple #[.slice ga (tilesN W T * tilesN H T : Nat) gc, .nilIface]) ∧ IRow w' ga (tilesN W T * tilesN H T) (fun k => (grdL W T f n (tilesN W T * tilesN H T)).getD k 0) ∧ Below w.heap.size w w' := by
  obtain ⟨i0, hi, hz0, hz1, hz2⟩ := info_parts info_int'
  obtain ⟨j0, hj, hy0, hy1, hy2⟩ := info_parts info_sl
  have hb0 : ∀ o, Below w.heap.size w (w.alloc o) := fun o => (Below.refl _ _).alloc (Nat.le_refl _) _
  have HV := Lib.hid (fun o => validP_ok ad W H f a n cap (w.alloc o) (he.below (hb0 o)) (h.below (hb0 o)) g)
  have HB0 := Lib.hid hb0
  have HA := Lib.hid (fun j (hj : j < n) => h.at hj)
  clear he h hb0
  obtain ⟨n1, n2⟩ := area_bd g
  obtain ⟨w0, w2, h1, h2, c4, _⟩ := g
  have hn : n = H * W := by
    have : (n : Int) = ((W * H : Nat) : Int) := by rw [c4]; push_cast; rfl
    rw [Nat.mul_comm]; omega
  have HNN := Lib.hid hn
  clear c4
  have tw1 := tiles_le W hT
  have th1 := tiles_le H hT
  have HKL : Hid (∀ k, k < n → tkF W T k < tilesN W T * tilesN H T) := Lib.hid (fun k hk => tk_lt (by omega) (by omega) (by rw [← hn]; exact hk))
  have HKH : Hid (∀ t, t < tilesN W T * tilesN H T → 0 < (tlL (tkF W T) f t n).length ∧ (tlL (tkF W T) f t n).length ≤ n) := Lib.hid (fun t ht => by
    obtain ⟨i, hi, e⟩ := tk_hit (H := H) (T := T) (by omega : 0 < W) (by omega) ht
    exact ⟨tlL_pos (by rw [hn]; exact hi) e, tlL_len n⟩)
  have HKD : Hid (∀ k, tkF W T k = k / W / T * tilesN W T + k % W / T) := Lib.hid (fun k => rfl)
  have HGG : Hid (∀ k, k < tilesN W T * tilesN H T → (grdL W T f n (tilesN W T * tilesN H T)).getD k 0 = medL (tlL (tkF W T) f k n)) := Lib.hid (fun k hk => grdL_get W T f n hk)
  clear hn
  have d1 : decide ((T : Int) < 1) = false := by simp; omega
  have d2 : decide ((256 : Int) < (T : Int)) = false := by simp; omega
  have HT1 := Lib.hid (fun W2 => tiles_any W T hT (by omega) (by omega) W2)
  have HT2 := Lib.hid (fun W2 => tiles_any H T hT (by omega) (by omega) W2)
  go_enter Tryz.func78, Tryz.ntmps78
  go_wp2_with fail
  refine (HV.out _).mono ?_; rintro e w1 ⟨rfl, hb1⟩
  have hbw := below_step (HB0.out _) hb1
  have s0 : w1.cell? ⟨w.heap.size, 0, none⟩ = some (.int .i64 W) := by rw [hb1.cell (p := ⟨w.heap.size, 0, none⟩) (by simp)]; simp
  have s1 : w1.cell? ⟨w.heap.size, 1, none⟩ = some (.int .i64 H) := by rw [hb1.cell (p := ⟨w.heap.size, 1, none⟩) (by simp)]; simp
  have s2 : w1.cell? ⟨w.heap.size, 2, none⟩ = some (.slice a n cap) := by rw [hb1.cell (p := ⟨w.heap.size, 2, none⟩) (by simp)]; simp
  have HS : Hid (∀ q, Below w.heap.size w (w1.drewN q) ∧ (w1.drewN q).cell? ⟨w.heap.size, 0, none⟩ = some (.int .i64 W) ∧ (w1.drewN q).cell? ⟨w.heap.size, 2, none⟩ = some (.slice a n cap)) := Lib.hid (fun q => ⟨below_drewN hbw q, by simpa using s0, by simpa using s2⟩)
  clear hb1 HV hbw HB0
  go_wp2
  go_quiet (first
    | (go_at_call 79; with_reducible exact Calls.quiet_of_same (HT1.out _))
    | (go_at_call 79; with_reducible exact Calls.quiet_of_same (HT2.out _)))
  clear HT1 HT2 s0 s1 s2
  have hq := HS.out nq
  generalize w1.drewN nq = w2 at *
  obtain ⟨hb2, s0, s2⟩ := hq
  have hN : (tilesN W T : Int) * (tilesN H T : Int) = ((tilesN W T * tilesN H T : Nat) : Int) := by push_cast; rfl
  have hNb := Nat.mul_le_mul (show tilesN W T ≤ 256 by omega) (show tilesN H T ≤ 256 by omega)
  generalize hNE : tilesN W T * tilesN H T = N at *
  have HNE := Lib.hid hNE
  clear hNE
  have hNw : IntKind.i64.wrap (N : Int) = (N : Int) := IntWalk.i64_in _ (by omega)
  have hsl : w.heap.size < w2.heap.size := cell_lt s0
  go_wp2_with (refine wpList_make_full _ rfl (.tmp 37) (.tmp 37) 181 rfl w2.heap.size 29 j0 (.slice none 0 0) 1 Tryz.underlying181 hj hy0 hy1 .i64 .i64 (N : Int) (N : Int) N rfl rfl (by first | rfl | omega) (by first | rfl | omega) (by rw [hy2]; omega) (by unfold maxLen; omega) (Nat.le_refl _) ?_; (intro w3 hown hgrow; have hb3 : Below w2.heap.size w2 w3 := (Below.refl _ _).grown hgrow (Nat.le_refl _) (fun j hj => by cases hj); have r2 : w3.cell? ⟨w.heap.size, 2, none⟩ = some (.slice a n cap) := (hb3.cell (p := ⟨w.heap.size, 2, none⟩) hsl).trans s2; have HT0 := Lib.hid (tileRows_made hown (w2.heap.size + 1)); have HB3 := Lib.hid hb3; have HLT := Lib.hid (hown.lt _ rfl).2; clear hown hgrow hb3))
  have HB2 := Lib.hid hb2
  have HS0 := Lib.hid (And.intro s0 s2)
  generalize hbl : w2.heap.size = bl at *
  clear s0 s2 HS hb2
  have HSR : Hid (∀ W', Below bl w2 W' → W'.cell? ⟨w.heap.size, 0, none⟩ = some (.int .i64 W) ∧ W'.cell? ⟨w.heap.size, 2, none⟩ = some (.slice a n cap)) := Lib.hid (fun W' hb => ⟨by rw [hb.cell (p := ⟨w.heap.size, 0, none⟩) hsl]; exact HS0.out.1, by rw [hb.cell (p := ⟨w.heap.size, 2, none⟩) hsl]; exact HS0.out.2⟩)
  clear HS0
  have hW0 : ((W : Int) == 0) = false := by simp; omega
  have hT0 : ((T : Int) == 0) = false := by simp; omega
  go_loopw [42] (fun i wr => ∃ (k : Nat) (vs : Nat → Value), k ≤ n ∧ i = .int .i64 k ∧ Hid (TileRows wr bl (bl + 1) N vs (fun t => tlL (tkF W T) f t k)) ∧ Hid (Below bl w2 wr) ∧ Hid (bl < wr.heap.size)) (fun i _ => n - (intOf i).toNat)
  case atStart => exact ⟨0, _, Nat.zero_le _, rfl, HT0, HB3, HLT⟩
  case round =>
    clear HT0 HB3 HLT r2
    obtain ⟨k, vs, hk, rfl, hTR, hW, hL⟩ := hrel
    by_cases hlt : k < n
    · obtain ⟨ba, oa, rfl, hba, ck⟩ := HA.out k hlt
      have q0 := (HSR.out wr hW.out).1
      have HBw := Lib.hid (below_step HB2.out (by rw [hbl]; exact hW.out))
      have ckr : wr.cell? ⟨ba, oa + k, none⟩ = some (.int .i64 (f k)) := by rw [HBw.out.cell (p := ⟨ba, oa + k, none⟩) hba]; exact ck
      have hKN := HKL.out k hlt
      have hKd := HKD.out k
      have hT1 := tlL_hit (q := tkF W T) (f := f) (k := tkF W T k) (i := k) rfl
      have hT2' := fun t (ht : tkF W T k ≠ t) => tlL_miss (q := tkF W T) (f := f) (k := t) (i := k) ht
      have HT1 := Lib.hid hT1
      have HT2 := Lib.hid hT2'
      have hLl := tlL_len (q := tkF W T) (f := f) (k := tkF W T k) k
      have htw : tilesN W T ≤ 256 := by omega
      have hq1 : k / W < k + 1 := Nat.lt_succ_of_le (Nat.div_le_self _ _)
      have hq2 : k / W / T < k + 1 := Nat.lt_succ_of_le (Nat.le_trans (Nat.div_le_self _ _) (Nat.div_le_self _ _))
      have hr1 : k % W < W := Nat.mod_lt _ (by omega)
      have hr2 : k % W / T < W := Nat.lt_of_le_of_lt (Nat.div_le_self _ _) hr1
      have hm : k / W / T * tilesN W T ≤ tkF W T k := by rw [hKd]; exact Nat.le_add_right _ _
      have e1 : (k : Int) / (W : Int) = ((k / W : Nat) : Int) := (Int.natCast_ediv _ _).symm
      have e2 : (((k / W : Nat)) : Int) / (T : Int) = ((k / W / T : Nat) : Int) := (Int.natCast_ediv _ _).symm
      have e3 : (k : Int) % (W : Int) = ((k % W : Nat) : Int) := (Int.natCast_emod _ _).symm
      have e4 : (((k % W : Nat)) : Int) / (T : Int) = ((k % W / T : Nat) : Int) := (Int.natCast_ediv _ _).symm
      have e5 : ((k / W / T : Nat) : Int) * ((tilesN W T : Nat) : Int) = ((k / W / T * tilesN W T : Nat) : Int) := by push_cast; rfl
      have e6 : ((k / W / T * tilesN W T : Nat) : Int) + ((k % W / T : Nat) : Int) = ((tkF W T k : Nat) : Int) := by rw [hKd]; push_cast; rfl
      have t1 : (k : Int).tdiv (W : Int) = ((k / W : Nat) : Int) := (Int.tdiv_eq_ediv_of_nonneg (Int.natCast_nonneg _)).trans e1
      have t2 : (((k / W : Nat)) : Int).tdiv (T : Int) = ((k / W / T : Nat) : Int) := (Int.tdiv_eq_ediv_of_nonneg (Int.natCast_nonneg _)).trans e2
      have t3 : (k : Int).tmod (W : Int) = ((k % W : Nat) : Int) := (Int.tmod_eq_emod_of_nonneg (Int.natCast_nonneg _)).trans e3
      have t4 : (((k % W : Nat)) : Int).tdiv (T : Int) = ((k % W / T : Nat) : Int) := (Int.tdiv_eq_ediv_of_nonneg (Int.natCast_nonneg _)).trans e4
      clear hKd hT1 hT2' ck
      obtain ⟨cK, oK, fK⟩ := hTR.out.1 (tkF W T k) hKN
      have HC : Hid (∀ q o, ((wr.drewN q).alloc o).ownsRow (bl + 1) 3 1 (vs (tkF W T k)) (tlL (tkF W T) f (tkF W T k) k).length ((tlL (tkF W T) f (tkF W T k) k).map (Value.int .i64)) ∧ ((wr.drewN q).alloc o).cell? ⟨bl, tkF W T k, none⟩ = some (vs (tkF W T k)) ∧ ((wr.drewN q).alloc o).frozen? ⟨bl, tkF W T k, none⟩ = false) := Lib.hid (fun q o => by
        have hb := (below_drewN (Below.refl wr.heap.size wr) q).alloc (by simp) o
        have h1 := (hTR.out.below hb).1 (tkF W T k) hKN
        exact ⟨h1.2.1, h1.1, h1.2.2⟩)
      have HTR2 : Hid (∀ q o, TileRows ((wr.drewN q).alloc o) bl (bl + 1) N vs (fun t => tlL (tkF W T) f t k)) := Lib.hid (fun q o => hTR.out.below ((below_drewN (Below.refl wr.heap.size wr) q).alloc (by simp) o))
      have HW2 : Hid (∀ q o, Below bl w2 ((wr.drewN q).alloc o) ∧ wr.heap.size < ((wr.drewN q).alloc o).heap.size) := Lib.hid (fun q o => ⟨(below_drewN hW.out q).alloc (Nat.le_trans (Nat.le_of_lt hL.out) (by simp)) o, by simp⟩)
      have hne : some bl ≠ (vs (tkF W T k)).ownBlock := fun e => by have := (oK.lt bl e.symm).1; omega
      have hLs := hL.out
      obtain ⟨L, hLd⟩ : ∃ L, L = tlL (tkF W T) f (tkF W T k) k := ⟨_, rfl⟩
      have HLK := Lib.hid hLd.symm
      rw [← hLd] at HC HT1 hLl
      clear hLd
      generalize tkF W T k = K at *
      generalize k / W / T * tilesN W T = M at *
      generalize k / W / T = Q2 at *
      generalize k / W = Q1 at *
      generalize k % W / T = R2 at *
      generalize k % W = R1 at *
      generalize tilesN W T = tw at *
      generalize f k = x at *
      obtain ⟨v, hv⟩ : ∃ v, v = vs K := ⟨_, rfl⟩
      rw [← hv] at HC hne cK
      have HV := Lib.hid hv
      clear hv oK fK hTR hW hL
      have u1 : IntKind.i64.wrap (Q1 : Int) = (Q1 : Int) := IntWalk.i64_in _ (by omega)
      have u2 : IntKind.i64.wrap (Q2 : Int) = (Q2 : Int) := IntWalk.i64_in _ (by omega)
      have u3 : IntKind.i64.wrap (R1 : Int) = (R1 : Int) := IntWalk.i64_in _ (by omega)
      have u4 : IntKind.i64.wrap (R2 : Int) = (R2 : Int) := IntWalk.i64_in _ (by omega)
      have u5 : IntKind.i64.wrap (M : Int) = (M : Int) := IntWalk.i64_in _ (by omega)
      have u6 : IntKind.i64.wrap (K : Int) = (K : Int) := IntWalk.i64_in _ (by omega)
      have z1 : ¬ ((W : Int) = 0) := by omega
      have z2 : ¬ (W = 0) := by omega
      have z3 : ¬ ((T : Int) = 0) := by omega
      have z4 : ¬ (T = 0) := by omega
      have b1 : (0 : Int) ≤ (K : Int) := by omega
      have b2 : (K : Int) < (N : Int) := by omega
      go_wp2
      go_quiet (fail)
      clear u1 u2 u3 u4 u5 t1 t2 t3 t4 e1 e2 e3 e4 e5 e6
      go_wp2_with (first
        | (at_builtin; refine wpList_append_own_at _ rfl _ _ 29 rfl (bl + 1) 3 i0 (.int .i64 0) 1 8 Tryz.underlying29 hi hz0 hz1 hz2 rfl (by decide) v L.length (L.map (Value.int .i64)) rfl (HC.out _ _).1 ⟨wr.heap.size, 0, none⟩ 1 1 [.int .i64 x] rfl rfl ?c1 ?c2 ?c3 ?c4 ?c5 ?_)
        | fail)
      case c1 =>
        intro j' u hj'
        match j', hj' with
        | 0, hj' => simp at hj'; subst hj'; exact fresh_cell _ _ (by simp) _ _
      case c2 =>
        intro u hu
        simp only [List.mem_cons, List.not_mem_nil, or_false] at hu
        subst hu; rfl
      case c3 => unfold maxLen; omega
      case c4 => omega
      case c5 => simp; omega
      intro v' w6 hown hgrow _ hat
      obtain ⟨_, cq, fq⟩ := HC.out nq (.cells #[.int .i64 x] 3)
      obtain ⟨bq, lq⟩ := HW2.out nq (.cells #[.int .i64 x] 3)
      have TR := HTR2.out nq (.cells #[.int .i64 x] 3)
      have es : ((wr.drewN nq).alloc (.cells #[.int .i64 x] 3)).heap.size = wr.heap.size + 1 := by simp
      clear HC HW2 HTR2
      generalize (wr.drewN nq).alloc (.cells #[.int .i64 x] 3) = wd at *
      have c6 : w6.cell? ⟨bl, K, none⟩ = some v := (hgrow.cell_far ⟨bl, K, none⟩ (by simp; omega) hne).trans cq
      have f6 : w6.frozen? ⟨bl, K, none⟩ = false := (hgrow.frozen_far ⟨bl, K, none⟩ (by simp; omega) hne).trans fq
      have HB6 := Lib.hid (bq.grown hgrow (by omega) (fun j hj => by
        have h1 := ((TR.1 K hKN).2.1.lt j (by rw [← HV.out]; exact hj)).1
        omega))
      have HG6 := hgrow.size
      rw [HV.out] at hgrow hat
      rw [← es] at hat
      obtain ⟨g', c', rfl⟩ : ∃ g' c', v' = .slice (some ⟨g', 0, none⟩) (L.length + 1) c' := by
        rcases hown.2 with ⟨_, h0⟩ | ⟨g', c', cur, e, _⟩
        · omega
        · exact ⟨g', c', e⟩
      have HR := Lib.hid (TR.step (x := x) (Nat.lt_succ_self _) hKN (by rw [HLK.out]; exact hown) hgrow hat)
      clear hown hgrow hat TR cq fq bq
      go_wp2
      go_roundw
      case rel =>
        refine ⟨k + 1, _, by omega, by go_num, Lib.hid (HR.out.congr (fun j => ?_)), Lib.hid (HB6.out.setCell (by simp) _), Lib.hid (by simp; omega)⟩
        by_cases e : j = K
        · subst e
          rw [if_pos rfl, HT1.out, HLK.out]
        · rw [if_neg e, HT2.out j (fun h => e h.symm)]
      case measure => simp [intOf]; omega
    · have e : k = n := by omega
      have HRW : Hid (∀ t, t < N → ∃ ta tc, wr.cell? ⟨bl, t, none⟩ = some (.slice ta (tlL (tkF W T) f t n).length tc) ∧ IRow wr ta (tlL (tkF W T) f t n).length (fun j => (tlL (tkF W T) f t n).getD j 0)) := Lib.hid (fun t ht => by
        rw [e] at hTR
        obtain ⟨ta, tc, h1, h2⟩ := hTR.out.row ht
        exact ⟨ta, tc, by rw [(hTR.out.1 t ht).1, h1], h2⟩)
      have HBw := Lib.hid (below_step HB2.out (by rw [hbl]; exact hW.out))
      clear hTR hW hL HA HSR HKL HKD e
      generalize wr = w5 at *
      go_wp2_with (refine wpList_make_full _ rfl (.tmp 74) (.tmp 74) 29 rfl w5.heap.size 3 i0 (.int .i64 0) 1 Tryz.underlying29 hi hz0 hz1 .i64 .i64 (N : Int) (N : Int) N rfl rfl rfl rfl (by rw [hz2]; omega) (by unfold maxLen; omega) (Nat.le_refl _) ?_; (intro w6 hown hgrow; have HO0 := Lib.hid (outZ_made hown); have HB6 := Lib.hid ((Below.refl _ _).grown hgrow (Nat.le_refl _) (fun j hj => by cases hj)); have HL6 := Lib.hid (hown.lt _ rfl).2; clear hown hgrow))
      go_loopw [78] (fun i wr => ∃ t : Nat, t ≤ N ∧ i = .int .i64 t ∧ Hid (OutZ wr w5.heap.size N (partF (fun j => medL (tlL (tkF W T) f j n)) t)) ∧ Hid (Below w5.heap.size w5 wr) ∧ Hid (w5.heap.size < wr.heap.size)) (fun i _ => N - (intOf i).toNat)
      case atStart => exact ⟨0, Nat.zero_le _, rfl, Lib.hid (HO0.out.congr (fun j _ => (if_neg (Nat.not_lt_zero _)).symm)), HB6, HL6⟩
      case round =>
        clear HO0 HB6 HL6
        obtain ⟨t, ht, rfl, hO, hB, hL⟩ := hrel
        by_cases htn : t < N
        · obtain ⟨ta, tc, hc, hr⟩ := HRW.out t htn
          have hcr : wr.cell? ⟨bl, t, none⟩ = some (.slice ta (tlL (tkF W T) f t n).length tc) := by rw [hB.out.cell (p := ⟨bl, t, none⟩) (cell_lt hc)]; exact hc
          obtain ⟨l0, l1⟩ := HKH.out t htn
          have HMe := Lib.hid (median_any (fun j => (tlL (tkF W T) f t n).getD j 0) ta _ tc l0 (by omega) wr (hr.below hB.out))
          rw [upto_list] at HMe
          have HP := Lib.hid (fun w' (h : OutZ w' w5.heap.size N (partF (fun j => medL (tlL (tkF W T) f j n)) t)) => h.part htn)
          clear hr hc
          generalize (tlL (tkF W T) f t n).length = Ln at *
          generalize hmd : medL (tlL (tkF W T) f t n) = md at *
          clear hmd
          go_wp2_with fail
          refine HMe.out.mono ?_; rintro e w7 ⟨rfl, hb7⟩
          have HO7 := Lib.hid (hO.out.below hb7)
          obtain ⟨c7, f7⟩ := HO7.out t htn
          have HB7 := Lib.hid (hB.out.trans (hb7.mono (Nat.le_of_lt hL.out)))
          have hL7 := Lib.hid (Nat.lt_of_lt_of_le hL.out hb7.size)
          clear hb7 hO hB hL HMe
          have HR := Lib.hid (HP.out w7 HO7.out)
          go_wp2
          go_roundw
          case rel => exact ⟨t + 1, by omega, by go_num, HR, Lib.hid (HB7.out.setCell (Nat.le_refl _) _), Lib.hid (by have := hL7.out; simpa using this)⟩
          case measure => simp [intOf]; omega
        · have e : t = N := by omega
          subst e
          have HF : Hid (IRow wr (some ⟨w5.heap.size, 0, none⟩) t (fun k => (grdL W T f n t).getD k 0)) := Lib.hid ((hO.out.whole.congr (fun j hj => (HGG.out j hj).symm)).row)
          have HBf := Lib.hid (below_step HBw.out hB.out)
          clear hO hB hL
          go_wp2
          go_ret2
          rw [HNE.out]
          exact ⟨_, _, rfl, HF.out, HBf.out⟩
end Go.Proofs.YthbekddpnkammaaGreatDoor
