/- RoundOf of package meridianref4 at a picture that is one. -/
import Derived.Test.YtjdjncfpcbeedaaDoorRndR
namespace Go.Proofs.YtjdjncfpcbeedaaDoor
open Go.RowKit

/-- A pixel by its row and column. -/
theorem rQ_at (X Y : Int) {V j i : Nat} (h : i < V) : rQ X Y V (j * V + i) = midF X Y i j := by
  have e1 : ((j * V + i : Nat) : Int) % (V : Int) = i := by
    rw [← Int.natCast_emod, Nat.mul_add_mod_self_right, Nat.mod_eq_of_lt h]
  have e2 : ((j * V + i : Nat) : Int) / (V : Int) = j := by
    rw [← Int.natCast_ediv, Nat.mul_comm, Nat.mul_add_div (by omega), Nat.div_eq_of_lt h, Nat.add_zero]
  unfold rQ
  rw [e1, e2]
set_option maxRecDepth 10000 in
set_option maxHeartbeats 4000000 in
theorem roundOf_ok (W H X Y L inn out : Int) (f : Nat → Int) (b o : Nat) (a : Option Addr) (n cap : Nat) (w : World) (hp : PicAt w b o W H a n cap f) (g : picG W H n f) (hok : rndOk X Y inn out) :
    Calls Tryd.prog 11 #[.pointer (some ⟨b, o, none⟩), .agg #[.int .i64 X, .int .i64 Y, .int .i64 L], .int .i64 inn, .int .i64 out] w fun e w' =>
      e = .returned (.tuple #[.int .i64 (rL f (rQ X Y W) (inn * inn) n - rG (rA f (rQ X Y W) (inn * inn) (out * out) n) * (rP (rQ X Y W) (inn * inn) n : Nat)), .int .i64 (rG (rA f (rQ X Y W) (inn * inn) (out * out) n)), .int .i64 (rP (rQ X Y W) (inn * inn) n : Nat), .int .i64 0]) ∧ Below w.heap.size w w' := by
  obtain ⟨i0, hi, hz0, hz1, hz2⟩ := info_parts info_int'
  obtain ⟨W, rfl⟩ : ∃ V : Nat, W = (V : Int) := ⟨W.toNat, by have := g.1; omega⟩
  obtain ⟨H, rfl⟩ : ∃ V : Nat, H = (V : Int) := ⟨H.toNat, by have := g.2.2.1; omega⟩
  have hb0 : ∀ o', Below w.heap.size w (w.alloc o') := fun o' => (Below.refl _ _).alloc (Nat.le_refl _) _
  have HV := Lib.hid (fun o' => picE_ok b o W H f a n cap (w.alloc o') (hp.below (hb0 o')) g)
  have HB0 := Lib.hid hb0
  obtain ⟨n1, n2⟩ := area_bd g
  obtain ⟨w1, w2, h1, h2, c4, hc⟩ := g
  have hn : n = H * W := by
    have : (n : Int) = ((W * H : Nat) : Int) := by rw [c4]; push_cast; rfl
    rw [Nat.mul_comm]; omega
  have HNN := Lib.hid hn
  have HA := Lib.hid (fun j (hj : j < n) => hp.2.2.2.at hj)
  have HC := Lib.hid hc
  obtain ⟨x1, x2, x3, X0, X1, Y0, Y1⟩ := hok
  have hsi := sq_bd30 (A := inn) (by omega) (by omega)
  have hso := sq_bd30 (A := out) (by omega) (by omega)
  have HFX := Lib.hid (fun W2 => farR_any X W2)
  have HFY := Lib.hid (fun W2 => farR_any Y W2)
  have ex : (decide (268435456 < X) || decide (X < -268435456)) = false := by simp; omega
  have ey : (decide (268435456 < Y) || decide (Y < -268435456)) = false := by simp; omega
  rw [ex] at HFX
  rw [ey] at HFY
  have HMd := Lib.hid (fun x y x0 x1 y0 y1 W2 => fromMiddle_any x y X Y L x0 x1 y0 y1 X0 X1 Y0 Y1 W2)
  have hpl := cell_lt hp.1
  have HPi := Lib.hid hp
  clear hp hc ex ey hb0 hn c4
  go_enter Tryd.func11, Tryd.ntmps11
  go_wp2_with fail
  refine (HV.out _).mono ?_; rintro e wa ⟨rfl, hb1⟩
  have s0 : wa.cell? ⟨w.heap.size, 0, none⟩ = some (.int .i64 X) := by rw [hb1.cell (p := ⟨w.heap.size, 0, none⟩) (by simp)]; simp
  have s1 : wa.cell? ⟨w.heap.size, 1, none⟩ = some (.int .i64 Y) := by rw [hb1.cell (p := ⟨w.heap.size, 1, none⟩) (by simp)]; simp
  have s2 : wa.cell? ⟨w.heap.size, 2, none⟩ = some (.int .i64 L) := by rw [hb1.cell (p := ⟨w.heap.size, 2, none⟩) (by simp)]; simp
  have hsz : w.heap.size < wa.heap.size := cell_lt s0
  have HB := Lib.hid (below_step (HB0.out _) hb1)
  clear hb1 HV
  go_wp2_with fail
  refine (HFX.out _).mono ?_; rintro e w2 ⟨rfl, rfl⟩
  go_wp2_with fail
  refine (HFY.out _).mono ?_; rintro e w2 ⟨rfl, rfl⟩
  clear HFX HFY
  go_wp2
  have HS : Hid (∀ W', Below wa.heap.size wa W' → (W'.cell? ⟨b, o, none⟩ = some (.int .i64 W) ∧ W'.cell? ⟨b, o + 1, none⟩ = some (.int .i64 H) ∧ W'.cell? ⟨b, o + 2, none⟩ = some (.slice a n cap)) ∧ W'.cell? ⟨w.heap.size, 0, none⟩ = some (.int .i64 X) ∧ W'.cell? ⟨w.heap.size, 1, none⟩ = some (.int .i64 Y) ∧ W'.cell? ⟨w.heap.size, 2, none⟩ = some (.int .i64 L)) := Lib.hid (fun W' hb => by
    have hq := HPi.out.below (below_step HB.out hb)
    exact ⟨⟨hq.1, hq.2.1, hq.2.2.1⟩, by rw [hb.cell (p := ⟨w.heap.size, 0, none⟩) hsz]; exact s0, by rw [hb.cell (p := ⟨w.heap.size, 1, none⟩) hsz]; exact s1, by rw [hb.cell (p := ⟨w.heap.size, 2, none⟩) hsz]; exact s2⟩)
  clear s0 s1 s2
  go_loopw [15, 16, 17, 18] (fun v l p y wr => ∃ j : Nat, j ≤ H ∧ y = .int .i64 j ∧ l = .int .i64 (rL f (rQ X Y W) (inn * inn) (j * W)) ∧ p = .int .i64 (rP (rQ X Y W) (inn * inn) (j * W) : Nat) ∧ Hid (Gath wa v (rA f (rQ X Y W) (inn * inn) (out * out) (j * W)) wr)) (fun _ _ _ y _ => H - (intOf y).toNat)
  case atStart => exact ⟨0, Nat.zero_le _, rfl, by rw [Nat.zero_mul]; rfl, by rw [Nat.zero_mul]; rfl, Lib.hid (by rw [Nat.zero_mul]; exact Gath.nil wa)⟩
  case round =>
    obtain ⟨j, hj, rfl, rfl, rfl, hG⟩ := hrel
    obtain ⟨⟨q0, q1, q2⟩, _⟩ := HS.out wr hG.out.2
    by_cases hjt : j < H
    · have hmul := Nat.mul_le_mul_right W (show j + 1 ≤ H by omega)
      rw [Nat.succ_mul, ← HNN.out] at hmul
      have hJ : (j : Int) * (W : Int) = ((j * W : Nat) : Int) := by push_cast; rfl
      have HQ := Lib.hid (fun i (h : i < W) => rQ_at X Y (V := W) (j := j) h)
      have HSU : Hid ((j + 1) * W = j * W + W) := Lib.hid (Nat.succ_mul _ _)
      generalize j * W = J at *
      go_wp2
      go_loopw [15, 16, 17, 19] (fun v l p x wr => ∃ i : Nat, i ≤ W ∧ x = .int .i64 i ∧ l = .int .i64 (rL f (rQ X Y W) (inn * inn) (J + i)) ∧ p = .int .i64 (rP (rQ X Y W) (inn * inn) (J + i) : Nat) ∧ Hid (Gath wa v (rA f (rQ X Y W) (inn * inn) (out * out) (J + i)) wr)) (fun _ _ _ x _ => W - (intOf x).toNat)
      case atStart => exact ⟨0, Nat.zero_le _, rfl, rfl, rfl, hG⟩
      case round =>
        clear hG q0 q1 q2
        obtain ⟨i, hi2, rfl, rfl, rfl, hG⟩ := hrel
        obtain ⟨⟨q0, q1, q2⟩, s0, s1, s2⟩ := HS.out wr hG.out.2
        by_cases hit : i < W
        · have hkn : J + i < n := by omega
          obtain ⟨ba, oa, e1, hbal, ck⟩ := HA.out (J + i) hkn
          subst e1
          have hfk := HC.out (J + i) hkn
          have hbl := rL_bd (q := rQ X Y W) (a := inn * inn) HC.out (J + i) (by omega)
          have hbp := rP_le (q := rQ X Y W) (a := inn * inn) (J + i)
          have hba := rA_len (f := f) (q := rQ X Y W) (a := inn * inn) (b := out * out) (J + i)
          have HMk := Lib.hid (fun W2 => HMd.out (i : Int) (j : Int) (by omega) (by omega) (by omega) (by omega) W2)
          rw [← HQ.out i hit] at HMk
          have ER1 := Lib.hid (fun h => rL_in (f := f) (q := rQ X Y W) (a := inn * inn) (k := J + i) h)
          have ER2 := Lib.hid (fun h => rL_out (f := f) (q := rQ X Y W) (a := inn * inn) (k := J + i) h)
          have EP1 := Lib.hid (fun h => rP_in (q := rQ X Y W) (a := inn * inn) (k := J + i) h)
          have EP2 := Lib.hid (fun h => rP_out (q := rQ X Y W) (a := inn * inn) (k := J + i) h)
          have EA1 := Lib.hid (fun h => rA_in (f := f) (q := rQ X Y W) (a := inn * inn) (b := out * out) (k := J + i) h)
          have EA2 := Lib.hid (fun h h2 => rA_mid (f := f) (q := rQ X Y W) (a := inn * inn) (b := out * out) (k := J + i) h h2)
          have EA3 := Lib.hid (fun h h2 => rA_out (f := f) (q := rQ X Y W) (a := inn * inn) (b := out * out) (k := J + i) h h2)
          have HK1 : Hid (J + (i + 1) = J + i + 1) := Lib.hid (by omega)
          have hidx : (J : Int) + (i : Int) = ((J + i : Nat) : Int) := by omega
          generalize J + i = K at *
          generalize rQ X Y W K = m at *
          generalize rL f (rQ X Y W) (inn * inn) K = l at *
          generalize rP (rQ X Y W) (inn * inn) K = p at *
          generalize rA f (rQ X Y W) (inn * inn) (out * out) K = Lk at *
          go_wp2_with fail
          refine (HMk.out _).mono ?_; rintro e w3 ⟨rfl, hb3⟩
          have HG3 := Lib.hid (hG.out.below hb3)
          obtain ⟨⟨q0, q1, q2⟩, _⟩ := HS.out w3 HG3.out.2
          have ckr : w3.cell? ⟨ba, oa + K, none⟩ = some (.int .i64 (f K)) := by rw [(below_step HB.out HG3.out.2).cell (p := ⟨ba, oa + K, none⟩) hbal]; exact ck
          clear hb3 hG HMk s0 s1 s2 ck
          by_cases c1 : m ≤ inn * inn
          · have E1 := Lib.hid (ER1.out (by omega))
            have E2 := Lib.hid (EP1.out (by omega))
            have E3 := Lib.hid (EA1.out (by omega))
            clear ER1 ER2 EP1 EP2 EA1 EA2 EA3
            generalize f K = x at *
            go_wp2
            go_quiet (fail)
            go_wp2
            go_roundw
            case rel => exact ⟨i + 1, by omega, by go_num, by rw [HK1.out, E1.out], by rw [HK1.out, E2.out]; go_num, Lib.hid (by rw [HK1.out, E3.out]; exact HG3.out.below (below_drewN (Below.refl _ _) _))⟩
            case measure => simp [intOf]; omega
          · have E1 := Lib.hid (ER2.out (by omega))
            have E2 := Lib.hid (EP2.out (by omega))
            by_cases c2 : m ≤ out * out
            · have E3 := Lib.hid (EA2.out (by omega) (by omega))
              have c1' : inn * inn < m := by omega
              clear ER1 ER2 EP1 EP2 EA1 EA2 EA3 c1
              have hne1 : (u15).ownBlock ≠ some b := fun e => by have := (HG3.out.1.lt b e).1; omega
              have hne2 : (u15).ownBlock ≠ some ba := fun e => by have := (HG3.out.1.lt ba e).1; have := HB.out.size; omega
              have hlb : b < w3.heap.size := cell_lt q0
              have hla : ba < w3.heap.size := cell_lt ckr
              have hsz3 := HG3.out.2.size
              generalize f K = x at *
              have ew0 : IntKind.i64.wrap (J : Int) = (J : Int) := IntWalk.i64_in _ (by omega)
              have ew1 : IntKind.i64.wrap ((j : Int) * (W : Int)) = (J : Int) := by rw [hJ]; exact ew0
              have ew3 : IntKind.i64.wrap (K : Int) = (K : Int) := IntWalk.i64_in _ (by omega)
              have ew2 : IntKind.i64.wrap ((J : Int) + (i : Int)) = (K : Int) := by rw [hidx]; exact ew3
              have r0 : (0 : Int) ≤ (K : Int) := by omega
              have r1 : (K : Int) < (n : Int) := by omega
              have r4 : ((K : Int)).toNat = K := by omega
              go_wp2
              go_region_held_law (fun w' => w'.cell? ⟨b, o, none⟩ = some (.int .i64 W) ∧ w'.cell? ⟨b, o + 2, none⟩ = some (.slice (some ⟨ba, oa, none⟩) n cap) ∧ w'.cell? ⟨ba, oa + K, none⟩ = some (.int .i64 x))
                (first
                  | go_keep
                  | (go_split_ands
                     refine ⟨?_, ?_, ?_⟩
                     · (rw [hgrow.cell_far _ (by simp; omega) (Ne.symm hne1)]; assumption)
                     · (rw [hgrow.cell_far _ (by simp; omega) (Ne.symm hne1)]; assumption)
                     · (rw [hgrow.cell_far _ (by simp; omega) (Ne.symm hne2)]; assumption)))
                ((refine step_append_lies _ (by rfl) _ _ _ (by rfl) wa.heap.size 3 i0 _ 1 8 Tryd.underlying29 hi hz0 hz1 hz2 rfl (by omega) u15 Lk.length (Lk.map (Value.int .i64)) (by rfl) ((HG3.out.1.alloc _).drew) ⟨w3.heap.size, 0, none⟩ 1 1 [.int .i64 x] (by rfl) (by rfl) (World.news_of_block (cs := #[.int .i64 x]) (t := 3) (fr := (0, 0)) (heap_alloc_new w3 _)) (by simp [Value.oneCell']) (by omega) (by unfold maxLen; omega) (by omega) (by simp; omega) (w3.heap.size + 1) (by simp) ?_; intro gg cap4 w4 hown hgrow hat hlt))
              have R := Lib.hid (Gath.step (x := x) (HG3.out.below (Below.refl _ _).drew) hown hgrow)
              clear hown hgrow hat hlt hne1 hne2 HG3
              go_wp2
              go_roundw
              case rel => exact ⟨i + 1, by omega, by go_num, by rw [HK1.out, E1.out], by rw [HK1.out, E2.out], Lib.hid (by rw [HK1.out, E3.out]; exact R.out)⟩
              case measure => simp [intOf]; omega
            · have E3 := Lib.hid (EA3.out (by omega) (by omega))
              have c1' : inn * inn < m := by omega
              have c2' : out * out < m := by omega
              clear ER1 ER2 EP1 EP2 EA1 EA2 EA3 c1 c2
              go_wp2
              go_roundw
              case rel => exact ⟨i + 1, by omega, by go_num, by rw [HK1.out, E1.out], by rw [HK1.out, E2.out], Lib.hid (by rw [HK1.out, E3.out]; exact HG3.out)⟩
              case measure => simp [intOf]; omega
        · obtain rfl : i = W := by omega
          go_wp2
          go_roundw
          case rel => exact ⟨j + 1, by omega, by go_num, by rw [HSU.out], by rw [HSU.out], Lib.hid (by rw [HSU.out]; exact hG.out)⟩
          case measure => simp [intOf]; omega
    · obtain rfl : j = H := by omega
      have hn := HNN.out
      have hG2 : Hid (Gath wa u15 (rA f (rQ X Y W) (inn * inn) (out * out) n) wr) := Lib.hid (by rw [hn]; exact hG.out)
      rw [← hn]
      clear hG hn
      have hG := hG2
      clear hG2
      have HBr := Lib.hid (below_step HB.out hG.out.2)
      have hbl := rL_bd (q := rQ X Y W) (a := inn * inn) HC.out n (Nat.le_refl _)
      have hbp := rP_le (q := rQ X Y W) (a := inn * inn) n
      have hba := rA_len (f := f) (q := rQ X Y W) (a := inn * inn) (b := out * out) n
      by_cases c0 : rA f (rQ X Y W) (inn * inn) (out * out) n = []
      · have hG0 : rG (rA f (rQ X Y W) (inn * inn) (out * out) n) = 0 := by rw [c0]; exact rG_nil
        have hz : (rA f (rQ X Y W) (inn * inn) (out * out) n).length = 0 := by rw [c0]; rfl
        obtain ⟨ga, gc, rfl, _⟩ := hG.out.row
        rw [hz]
        have HG0 := Lib.hid hG0
        clear hG hG0 hba hz c0
        go_wp2
        refine bodyPost_ret (v := .tuple #[.int .i64 (rL f (rQ X Y W) (inn * inn) n), .int .i64 0, .int .i64 (rP (rQ X Y W) (inn * inn) n : Nat), .int .i64 0]) ?_ rfl ?_
        · simp [results, Tryd.results11, go_sem]
        · exact ⟨by rw [HG0.out]; simp, HBr.out⟩
      · have hpos : 0 < (rA f (rQ X Y W) (inn * inn) (out * out) n).length := List.length_pos_iff.2 c0
        obtain ⟨ga, gc, rfl, hrow⟩ := hG.out.row
        have hmd := medL_bd c0 (rA_mem HC.out n (Nat.le_refl _))
        have hgs := rG_some c0
        have HMe := Lib.hid (medianOf_any (fun j => (rA f (rQ X Y W) (inn * inn) (out * out) n).getD j 0) ga _ gc hpos (by omega) wr hrow)
        rw [upto_list] at HMe
        have hmul : 0 ≤ (rP (rQ X Y W) (inn * inn) n : Nat) * medL (rA f (rQ X Y W) (inn * inn) (out * out) n) ∧ (rP (rQ X Y W) (inn * inn) n : Nat) * medL (rA f (rQ X Y W) (inn * inn) (out * out) n) ≤ 65536 * 65535 := ⟨Int.mul_nonneg (by omega) hmd.1, Int.mul_le_mul (by omega) hmd.2 (by omega) (by decide)⟩
        have HG0 := Lib.hid hgs
        clear hG hrow hgs c0
        generalize medL (rA f (rQ X Y W) (inn * inn) (out * out) n) = md at *
        generalize (rA f (rQ X Y W) (inn * inn) (out * out) n).length = Ln at *
        go_wp2_with fail
        refine HMe.out.mono ?_; rintro e w5 ⟨rfl, hb5⟩
        have HB5 := Lib.hid (below_step HBr.out hb5)
        clear hb5 HMe
        go_wp2
        refine bodyPost_ret (v := .tuple #[.int .i64 (rL f (rQ X Y W) (inn * inn) n - (rP (rQ X Y W) (inn * inn) n : Nat) * md), .int .i64 md, .int .i64 (rP (rQ X Y W) (inn * inn) n : Nat), .int .i64 0]) ?_ rfl ?_
        · simp [results, Tryd.results11, go_sem]
        · exact ⟨by rw [HG0.out, Int.mul_comm md], HB5.out⟩
end Go.Proofs.YtjdjncfpcbeedaaDoor
