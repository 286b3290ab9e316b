/- OverGround of package meridianref4: its walk. -/
import Derived.Test.YthbekddpnkammaaDoorLit
import Derived.Deep.RegionHeldLaw
import Derived.Deep.AppendLies
namespace Go.Proofs.YthbekddpnkammaaDoor
open Go.RowKit

set_option maxRecDepth 10000 in
set_option maxHeartbeats 8000000 in
theorem over_ok (W H T : Nat) (f : Nat → Int) (b o : Nat) (a : Option Addr) (n cap : Nat) (w : World) (hp : PicAt w b o W H a n cap f) (g : picG W H n f) (hT : 1 ≤ T) (hT2 : T ≤ 256) :
    Calls Tryd.prog 15 #[.pointer (some ⟨b, o, none⟩), .int .i64 T] w fun e w' =>
      ∃ ga gc, e = .returned (.slice ga n gc) ∧ IRow w' ga n (lessF W T f n) ∧ Below w.heap.size w w' := by
  obtain ⟨i0, hi, hz0, hz1, hz2⟩ := info_parts info_int'
  have HV := Lib.hid (groundOf_ok W H T f b o a n cap w hp g hT hT2)
  have HPi := Lib.hid hp
  have HA := Lib.hid (fun j (hj : j < n) => hp.2.2.2.at hj)
  clear hp
  obtain ⟨n1, n2⟩ := area_bd g
  obtain ⟨w0, w2, h1, h2, c4, hcnt⟩ := g
  have hn : n = H * W := by
    have : (n : Int) = ((W * H : Nat) : Int) := by rw [c4]; push_cast; rfl
    rw [Nat.mul_comm]; omega
  clear c4
  have tw1 := tiles_le W hT
  have th1 := tiles_le H hT
  have HKL : Hid (∀ k, k < n → tkF W T k < tilesN W T * tilesN H T) := Lib.hid (fun k hk => tk_lt (by omega) (by omega) (by rw [← hn]; exact hk))
  have HGG : Hid (∀ k, k < tilesN W T * tilesN H T → (grdL W T f n (tilesN W T * tilesN H T)).getD k 0 = medL (tlL (tkF W T) f k n)) := Lib.hid (fun k hk => grdL_get W T f n hk)
  have hNb := Nat.mul_le_mul (show tilesN W T ≤ 256 by omega) (show tilesN H T ≤ 256 by omega)
  have HLB : Hid (∀ k, k < n → _) := Lib.hid (fun k hk => medL_range (W := W) (T := T) hcnt hk)
  have HFB := Lib.hid hcnt
  have HNN := Lib.hid hn
  clear hn hcnt
  have x1 : (W : Int) + (T : Int) - 1 = ((W + T - 1 : Nat) : Int) := by omega
  have x2 : ((W + T - 1 : Nat) : Int) / (T : Int) = ((tilesN W T : Nat) : Int) := by unfold tilesN; rw [Int.natCast_ediv]
  have x3 : ((W + T - 1 : Nat) : Int).tdiv (T : Int) = ((tilesN W T : Nat) : Int) := (Int.tdiv_eq_ediv_of_nonneg (Int.natCast_nonneg _)).trans x2
  have x4 : IntKind.i64.wrap ((W + T - 1 : Nat) : Int) = ((W + T - 1 : Nat) : Int) := IntWalk.i64_in _ (by omega)
  have x5 : ((T : Int) == 0) = false := by simp; omega
  have x6 : ¬ ((T : Int) = 0) := by omega
  have x7 : ¬ (T = 0) := by omega
  go_enter Tryd.func15, Tryd.ntmps15
  go_wp2_with fail
  refine HV.out.mono ?_; rintro e w1 ⟨ga, gc, rfl, hga, hb1⟩
  have HB1 := Lib.hid hb1
  have HGR := Lib.hid (fun j (hj : j < tilesN W T * tilesN H T) => hga.at hj)
  have hq := HPi.out.below hb1
  have q0 := hq.1
  clear hb1 HV hga hq
  generalize tilesN W T * tilesN H T = N at *
  generalize W + T - 1 = WT at *
  have HPR : Hid (∀ W', Below w1.heap.size w1 W' → W'.cell? ⟨b, o, none⟩ = some (.int .i64 W) ∧ W'.cell? ⟨b, o + 1, none⟩ = some (.int .i64 H) ∧ W'.cell? ⟨b, o + 2, none⟩ = some (.slice a n cap)) := Lib.hid (fun W' hb => by
    have h := HPi.out.below (below_step HB1.out hb)
    exact ⟨h.1, h.2.1, h.2.2.1⟩)
  go_wp2
  go_loopw [8, 9] (fun l y wr => ∃ v : Nat, y = .int .i64 v ∧ v ≤ H ∧ Hid (Gath w1 l (upto (lessF W T f n) (v * W)) wr)) (fun _ y _ => H - (intOf y).toNat)
  case atStart => exact ⟨0, rfl, Nat.zero_le _, Lib.hid (by rw [Nat.zero_mul]; exact Gath.nil w1)⟩
  case round =>
    clear q0
    obtain ⟨v, rfl, hv, hG⟩ := hrel
    obtain ⟨q0, q1, q2⟩ := HPR.out wr hG.out.2
    by_cases hvH : v < H
    · have HSU : Hid ((v + 1) * W = v * W + W) := Lib.hid (Nat.succ_mul _ _)
      have hmul := Nat.mul_le_mul_right W (show v + 1 ≤ H by omega)
      rw [Nat.succ_mul, ← HNN.out] at hmul
      have hJ : (v : Int) * (W : Int) = ((v * W : Nat) : Int) := by push_cast; rfl
      have HTK : Hid (∀ u, u < W → tkF W T (v * W + u) = v / T * tilesN W T + u / T) := Lib.hid (fun u hu => by
        obtain ⟨e1, e2⟩ := row_at (v := v) hu
        unfold tkF
        rw [e1, e2])
      have hq2 : v / T ≤ v := Nat.div_le_self _ _
      have e2 : (v : Int) / (T : Int) = ((v / T : Nat) : Int) := (Int.natCast_ediv _ _).symm
      have t2 : (v : Int).tdiv (T : Int) = ((v / T : Nat) : Int) := (Int.tdiv_eq_ediv_of_nonneg (Int.natCast_nonneg _)).trans e2
      have e5 : ((v / T : Nat) : Int) * ((tilesN W T : Nat) : Int) = ((v / T * tilesN W T : Nat) : Int) := by push_cast; rfl
      have hM : v / T * tilesN W T ≤ 65536 := Nat.le_trans (Nat.mul_le_mul (show v / T ≤ 256 by omega) (show tilesN W T ≤ 256 by omega)) (by decide)
      generalize v * W = J at *
      generalize v / T * tilesN W T = M at *
      generalize v / T = Q2 at *
      have u2 : IntKind.i64.wrap (Q2 : Int) = (Q2 : Int) := IntWalk.i64_in _ (by omega)
      have u5 : IntKind.i64.wrap (M : Int) = (M : Int) := IntWalk.i64_in _ (by omega)
      generalize wr = wo at *
      go_wp2
      go_loopw [8, 10] (fun l x wr => ∃ u : Nat, x = .int .i64 u ∧ u ≤ W ∧ Hid (Gath w1 l (upto (lessF W T f n) (J + u)) wr)) (fun _ x _ => W - (intOf x).toNat)
      case atStart => exact ⟨0, rfl, Nat.zero_le _, hG⟩
      case round =>
        clear hG q0 q1 q2
        obtain ⟨u, rfl, hu, hL⟩ := hrel
        obtain ⟨q0, q1, q2⟩ := HPR.out wr hL.out.2
        by_cases huW : u < W
        · have hkn : J + u < n := by omega
          obtain ⟨ba, oa, rfl, hba, ck⟩ := HA.out (J + u) hkn
          have HBr := Lib.hid (below_step HB1.out hL.out.2)
          have ckr : wr.cell? ⟨ba, oa + (J + u), none⟩ = some (.int .i64 (f (J + u))) := by rw [HBr.out.cell (p := ⟨ba, oa + (J + u), none⟩) hba]; exact ck
          have hKN := HKL.out _ hkn
          obtain ⟨bg, og, rfl, hbg, cg⟩ := HGR.out _ hKN
          rw [HGG.out _ hKN] at cg
          have cgr : wr.cell? ⟨bg, og + tkF W T (J + u), none⟩ = some (.int .i64 (medL (tlL (tkF W T) f (tkF W T (J + u)) n))) := by rw [hL.out.2.cell (p := ⟨bg, og + tkF W T (J + u), none⟩) hbg]; exact cg
          have hmb := HLB.out _ hkn
          have hfb := HFB.out _ hkn
          have HUS := Lib.hid (upto_succ (lessF W T f n) (J + u))
          have hle : lessF W T f n (J + u) = f (J + u) - medL (tlL (tkF W T) f (tkF W T (J + u)) n) := rfl
          have hr2 : u / T ≤ u := Nat.div_le_self _ _
          have e4 : (u : Int) / (T : Int) = ((u / T : Nat) : Int) := (Int.natCast_ediv _ _).symm
          have t4 : (u : Int).tdiv (T : Int) = ((u / T : Nat) : Int) := (Int.tdiv_eq_ediv_of_nonneg (Int.natCast_nonneg _)).trans e4
          have e6 : (M : Int) + ((u / T : Nat) : Int) = ((tkF W T (J + u) : Nat) : Int) := by rw [HTK.out u huW]; push_cast; rfl
          have hll : (upto (lessF W T f n) (J + u)).length = J + u := upto_len _ _
          have hJu : (J : Int) + (u : Int) = ((J + u : Nat) : Int) := by push_cast; rfl
          have HJ1 : Hid (J + (u + 1) = J + u + 1) := Lib.hid rfl
          clear ck cg
          generalize medL (tlL (tkF W T) f (tkF W T (J + u)) n) = md at *
          generalize tkF W T (J + u) = K at *
          generalize upto (lessF W T f n) (J + u) = L at *
          generalize lessF W T f n (J + u) = lv at *
          generalize f (J + u) = x at *
          generalize J + u = k at *
          generalize u / T = R2 at *
          have HLE := Lib.hid hle
          have hwx : IntKind.i64.wrap (x - md) = x - md := IntWalk.i64_in _ (by omega)
          have u4 : IntKind.i64.wrap (R2 : Int) = (R2 : Int) := IntWalk.i64_in _ (by omega)
          have u6 : IntKind.i64.wrap (K : Int) = (K : Int) := IntWalk.i64_in _ (by omega)
          have u7 : IntKind.i64.wrap (J : Int) = (J : Int) := IntWalk.i64_in _ (by omega)
          have u8' : IntKind.i64.wrap (k : Int) = (k : Int) := IntWalk.i64_in _ (by omega)
          have b1 : (0 : Int) ≤ (K : Int) := by omega
          have b2 : (K : Int) < (N : Int) := by omega
          have b3 : (0 : Int) ≤ (k : Int) := by omega
          have b4 : (k : Int) < (n : Int) := by omega
          have hne1 : (u8).ownBlock ≠ some b := fun e => by have := (hL.out.1.lt b e).1; have := HB1.out.size; have := cell_lt HPi.out.1; omega
          have hne2 : (u8).ownBlock ≠ some ba := fun e => by have := (hL.out.1.lt ba e).1; have := HB1.out.size; omega
          have hne3 : (u8).ownBlock ≠ some bg := fun e => by have := (hL.out.1.lt bg e).1; omega
          have hlb : b < wr.heap.size := cell_lt q0
          have hla : ba < wr.heap.size := cell_lt ckr
          have hlg : bg < wr.heap.size := cell_lt cgr
          have hsz3 := hL.out.2.size
          clear hle q1
          go_wp2
          go_region_held_law (fun w' => w'.cell? ⟨b, o, none⟩ = some (.int .i64 W) ∧ w'.cell? ⟨b, o + 2, none⟩ = some (.slice (some ⟨ba, oa, none⟩) n cap) ∧ w'.cell? ⟨ba, oa + k, none⟩ = some (.int .i64 x) ∧ w'.cell? ⟨bg, og + K, none⟩ = some (.int .i64 md))
            (first
              | go_keep
              | (go_split_ands
                 refine ⟨?_, ?_, ?_, ?_⟩
                 · (rw [hgrow.cell_far _ (by simp; omega) (Ne.symm hne1)]; assumption)
                 · (rw [hgrow.cell_far _ (by simp; omega) (Ne.symm hne1)]; assumption)
                 · (rw [hgrow.cell_far _ (by simp; omega) (Ne.symm hne2)]; assumption)
                 · (rw [hgrow.cell_far _ (by simp; omega) (Ne.symm hne3)]; assumption)))
            ((refine step_append_lies _ (by rfl) _ _ _ (by rfl) w1.heap.size 3 i0 _ 1 8 Tryd.underlying26 hi hz0 hz1 hz2 rfl (by omega) u8 L.length (L.map (Value.int .i64)) (by rfl) ((hL.out.1.alloc _).drew) ⟨wr.heap.size, 0, none⟩ 1 1 [.int .i64 (x - md)] (by rfl) (by rfl) (World.news_of_block (cs := #[.int .i64 (x - md)]) (t := 3) (fr := (0, 0)) (heap_alloc_new wr _)) (by simp [Value.oneCell']) (by omega) (by unfold maxLen; omega) (by omega) (by simp; omega) (wr.heap.size + 1) (by simp) ?_; intro gg cap4 w4 hown hgrow hat hlt))
          have R := Lib.hid (Gath.step (x := x - md) (hL.out.below (Below.refl _ _).drew) hown hgrow)
          clear hown hgrow hat hlt hne1 hne2 hne3 hL
          go_wp2
          go_roundw
          case rel => exact ⟨u + 1, by go_num, by omega, Lib.hid (by rw [HJ1.out, HUS.out, HLE.out, ← hll]; exact R.out)⟩
          case measure => simp [intOf]; omega
        · have e : u = W := by omega
          subst e
          go_wp2
          go_roundw
          case rel => exact ⟨v + 1, by go_num, by omega, Lib.hid (by rw [HSU.out]; exact hL.out)⟩
          case measure => simp [intOf]; omega
    · have e : v = H := by omega
      subst e
      obtain ⟨ra, rc', rfl, hrow⟩ := hG.out.row
      rw [upto_len] at hrow
      have hrow2 : IRow wr ra n (lessF W T f n) := by
        rw [← HNN.out] at hrow
        exact hrow.congr (fun j hj => by
          unfold upto
          rw [List.getD_eq_getElem?_getD, List.getElem?_map, List.getElem?_range hj]
          rfl)
      have HRW := Lib.hid hrow2
      have HBr := Lib.hid (below_step HB1.out hG.out.2)
      have hll : (upto (lessF W T f n) (v * W)).length = n := by rw [upto_len, HNN.out]
      rw [hll]
      clear hrow hrow2 hG
      go_wp2
      go_ret
      exact ⟨_, _, rfl, HRW.out, HBr.out⟩
end Go.Proofs.YthbekddpnkammaaDoor
