/- spots.less and spots.Lit: their walks. -/
import Derived.Test.YthbekddpnkammaaGreatDoorGrdM
namespace Go.Proofs.YthbekddpnkammaaGreatDoor
open Go.RowKit

/-- A pixel's count less the ground of its tile. -/
def lessF (W T : Nat) (f : Nat → Int) (n k : Nat) : Int := f k - medL (tlL (tkF W T) f (tkF W T k) n)
/-- The numbers on the way to the tile of a pixel. -/
theorem tk_nums {W T k : Nat} (hW : 1 ≤ W) (hW2 : W ≤ 256) (hT : 1 ≤ T) (hk : k ≤ 65536) (hb : tkF W T k ≤ 65536) : ∃ Q1 Q2 R1 R2 M : Nat,
    (k : Int) / (W : Int) = (Q1 : Int) ∧ (Q1 : Int) / (T : Int) = (Q2 : Int) ∧ (k : Int) % (W : Int) = (R1 : Int) ∧ (R1 : Int) / (T : Int) = (R2 : Int) ∧ (Q2 : Int) * ((tilesN W T : Nat) : Int) = (M : Int) ∧ (M : Int) + (R2 : Int) = ((tkF W T k : Nat) : Int) ∧
    (k : Int).tdiv (W : Int) = (Q1 : Int) ∧ (Q1 : Int).tdiv (T : Int) = (Q2 : Int) ∧ (k : Int).tmod (W : Int) = (R1 : Int) ∧ (R1 : Int).tdiv (T : Int) = (R2 : Int) ∧
    IntKind.i64.wrap (Q1 : Int) = (Q1 : Int) ∧ IntKind.i64.wrap (Q2 : Int) = (Q2 : Int) ∧ IntKind.i64.wrap (R1 : Int) = (R1 : Int) ∧ IntKind.i64.wrap (R2 : Int) = (R2 : Int) ∧ IntKind.i64.wrap (M : Int) = (M : Int) ∧ IntKind.i64.wrap ((tkF W T k : Nat) : Int) = ((tkF W T k : Nat) : Int) ∧
    ¬ ((W : Int) = 0) ∧ ¬ (W = 0) ∧ ¬ ((T : Int) = 0) ∧ ¬ (T = 0) ∧ ((W : Int) == 0) = false ∧ ((T : Int) == 0) = false := by
  have hKd : tkF W T k = k / W / T * tilesN W T + k % W / T := rfl
  have hq1 : k / W < k + 1 := Nat.lt_succ_of_le (Nat.div_le_self _ _)
  have hq2 : k / W / T < k + 1 := Nat.lt_succ_of_le (Nat.le_trans (Nat.div_le_self _ _) (Nat.div_le_self _ _))
  have hr1 : k % W < W := Nat.mod_lt _ (by omega)
  have hr2 : k % W / T < W := Nat.lt_of_le_of_lt (Nat.div_le_self _ _) hr1
  have hm : k / W / T * tilesN W T ≤ tkF W T k := by rw [hKd]; exact Nat.le_add_right _ _
  have e1 : (k : Int) / (W : Int) = ((k / W : Nat) : Int) := (Int.natCast_ediv _ _).symm
  have e2 : (((k / W : Nat)) : Int) / (T : Int) = ((k / W / T : Nat) : Int) := (Int.natCast_ediv _ _).symm
  have e3 : (k : Int) % (W : Int) = ((k % W : Nat) : Int) := (Int.natCast_emod _ _).symm
  have e4 : (((k % W : Nat)) : Int) / (T : Int) = ((k % W / T : Nat) : Int) := (Int.natCast_ediv _ _).symm
  have e5 : ((k / W / T : Nat) : Int) * ((tilesN W T : Nat) : Int) = ((k / W / T * tilesN W T : Nat) : Int) := by push_cast; rfl
  have e6 : ((k / W / T * tilesN W T : Nat) : Int) + ((k % W / T : Nat) : Int) = ((tkF W T k : Nat) : Int) := by rw [hKd]; push_cast; rfl
  have t1 : (k : Int).tdiv (W : Int) = ((k / W : Nat) : Int) := (Int.tdiv_eq_ediv_of_nonneg (Int.natCast_nonneg _)).trans e1
  have t2 : (((k / W : Nat)) : Int).tdiv (T : Int) = ((k / W / T : Nat) : Int) := (Int.tdiv_eq_ediv_of_nonneg (Int.natCast_nonneg _)).trans e2
  have t3 : (k : Int).tmod (W : Int) = ((k % W : Nat) : Int) := (Int.tmod_eq_emod_of_nonneg (Int.natCast_nonneg _)).trans e3
  have t4 : (((k % W : Nat)) : Int).tdiv (T : Int) = ((k % W / T : Nat) : Int) := (Int.tdiv_eq_ediv_of_nonneg (Int.natCast_nonneg _)).trans e4
  generalize tkF W T k = K at *
  generalize k / W / T * tilesN W T = M at *
  generalize k / W / T = Q2 at *
  generalize k / W = Q1 at *
  generalize k % W / T = R2 at *
  generalize k % W = R1 at *
  exact ⟨Q1, Q2, R1, R2, M, e1, e2, e3, e4, e5, e6, t1, t2, t3, t4, IntWalk.i64_in _ (by omega), IntWalk.i64_in _ (by omega), IntWalk.i64_in _ (by omega), IntWalk.i64_in _ (by omega), IntWalk.i64_in _ (by omega), IntWalk.i64_in _ (by omega), by omega, by omega, by omega, by omega, by simp; omega, by simp; omega⟩
theorem medL_range {W T n k : Nat} {f : Nat → Int} (hc : cntOk f n) (hk : k < n) : 0 ≤ medL (tlL (tkF W T) f (tkF W T k) n) ∧ medL (tlL (tkF W T) f (tkF W T k) n) ≤ 65535 := by
  have hne : tlL (tkF W T) f (tkF W T k) n ≠ [] := fun e => by
    have := tlL_pos (q := tkF W T) (f := f) hk rfl
    rw [e] at this
    exact Nat.lt_irrefl _ this
  have hall : ∀ i, i ≤ n → ∀ x, x ∈ tlL (tkF W T) f (tkF W T k) i → 0 ≤ x ∧ x ≤ 65535 := by
    intro i
    induction i with
    | zero => intro _ x hx; cases hx
    | succ i ih =>
      intro hi x hx
      rw [tlL, List.mem_append] at hx
      rcases hx with hx | hx
      · exact ih (by omega) x hx
      · split at hx
        · rw [List.mem_singleton] at hx
          rw [hx]
          exact hc i (by omega)
        · cases hx
  exact hall n (Nat.le_refl _) _ (medL_mem hne)
theorem lessF_bd {W T n k : Nat} {f : Nat → Int} (hc : cntOk f n) (hk : k < n) : -65535 ≤ lessF W T f n k ∧ lessF W T f n k ≤ 65535 := by
  have h1 := hc k hk
  have h2 := medL_range (W := W) (T := T) hc hk
  unfold lessF
  omega
set_option maxRecDepth 10000 in
set_option maxHeartbeats 8000000 in
theorem less_ok (ad : Nat → Addr) (W H T : Nat) (f : Nat → Int) (a : Option Addr) (n cap : Nat) (w : World) (he : Errs w ad [1, 4]) (h : IRow w a n f) (g : picG W H n f) (hT : 1 ≤ T) (hT2 : T ≤ 256) :
    Calls Tryz.prog 52 #[.agg #[.int .i64 W, .int .i64 H, .slice a n cap], .int .i64 T] w fun e w' =>
      ∃ gb, e = .returned (.tuple #[.slice (some ⟨gb, 0, none⟩) n n, .nilIface]) ∧ IRow w' (some ⟨gb, 0, none⟩) n (lessF W T f n) ∧ Below w.heap.size w w' ∧ w.heap.size ≤ gb := by
  obtain ⟨i0, hi, hz0, hz1, hz2⟩ := info_parts info_int'
  have hb0 : ∀ o, Below w.heap.size w (w.alloc o) := fun o => (Below.refl _ _).alloc (Nat.le_refl _) _
  have HV := Lib.hid (fun o => ground_ok ad W H T f a n cap (w.alloc o) (he.below (hb0 o)) (h.below (hb0 o)) g hT hT2)
  have HB0 := Lib.hid hb0
  have HA := Lib.hid (fun j (hj : j < n) => h.at hj)
  clear he h hb0
  obtain ⟨n1, n2⟩ := area_bd g
  obtain ⟨w0, w2, h1, h2, c4, hcnt⟩ := g
  have hn : n = H * W := by
    have : (n : Int) = ((W * H : Nat) : Int) := by rw [c4]; push_cast; rfl
    rw [Nat.mul_comm]; omega
  clear c4
  have tw1 := tiles_le W hT
  have th1 := tiles_le H hT
  have HKL : Hid (∀ k, k < n → tkF W T k < tilesN W T * tilesN H T) := Lib.hid (fun k hk => tk_lt (by omega) (by omega) (by rw [← hn]; exact hk))
  have HGG : Hid (∀ k, k < tilesN W T * tilesN H T → (grdL W T f n (tilesN W T * tilesN H T)).getD k 0 = medL (tlL (tkF W T) f k n)) := Lib.hid (fun k hk => grdL_get W T f n hk)
  have hNb := Nat.mul_le_mul (show tilesN W T ≤ 256 by omega) (show tilesN H T ≤ 256 by omega)
  have HNU : Hid (∀ k, k < n → _) := Lib.hid (fun k hk => tk_nums (k := k) (W := W) (T := T) (by omega) (by omega) hT (by omega) (by have := HKL.out k hk; omega))
  have HLB : Hid (∀ k, k < n → _) := Lib.hid (fun k hk => medL_range (W := W) (T := T) hcnt hk)
  have HFB := Lib.hid hcnt
  clear hn hcnt
  have HT1 := Lib.hid (fun W2 => tiles_any W T hT (by omega) (by omega) W2)
  go_enter Tryz.func52, Tryz.ntmps52
  go_wp2_with fail
  refine (HV.out _).mono ?_; rintro e w1 ⟨ga, gc, rfl, hga, hb1⟩
  have hbw := below_step (HB0.out _) hb1
  have s0 : w1.cell? ⟨w.heap.size, 0, none⟩ = some (.int .i64 W) := by rw [hb1.cell (p := ⟨w.heap.size, 0, none⟩) (by simp)]; simp
  have s2 : w1.cell? ⟨w.heap.size, 2, none⟩ = some (.slice a n cap) := by rw [hb1.cell (p := ⟨w.heap.size, 2, none⟩) (by simp)]; simp
  have hsl : w.heap.size < w1.heap.size := cell_lt s0
  have HB1 := Lib.hid hbw
  have HGR := Lib.hid (fun j (hj : j < tilesN W T * tilesN H T) => hga.at hj)
  clear hb1 HV hbw HB0 hga
  generalize hNE : tilesN W T * tilesN H T = N at *
  clear hNE
  go_wp2_with fail
  refine (HT1.out _).mono ?_; rintro e w1 ⟨rfl, rfl⟩
  clear HT1
  generalize tilesN W T = tw at *
  go_wp2_with (refine wpList_make_full _ rfl (.tmp 27) (.tmp 27) 29 rfl w1.heap.size 3 i0 (.int .i64 0) 1 Tryz.underlying29 hi hz0 hz1 .i64 .i64 (n : Int) (n : Int) n rfl rfl rfl rfl (by rw [hz2]; omega) (by unfold maxLen; omega) (Nat.le_refl _) ?_; (intro w3 hown hgrow; have hb3 : Below w1.heap.size w1 w3 := (Below.refl _ _).grown hgrow (Nat.le_refl _) (fun j hj => by cases hj); have r2 : w3.cell? ⟨w.heap.size, 2, none⟩ = some (.slice a n cap) := (hb3.cell (p := ⟨w.heap.size, 2, none⟩) hsl).trans s2; have HO0 := Lib.hid (outZ_made hown); have HB3 := Lib.hid hb3; have HLT := Lib.hid (hown.lt _ rfl).2; clear hown hgrow hb3))
  have HSR : Hid (∀ W', Below w1.heap.size w1 W' → W'.cell? ⟨w.heap.size, 0, none⟩ = some (.int .i64 W)) := Lib.hid (fun W' hb => by rw [hb.cell (p := ⟨w.heap.size, 0, none⟩) hsl]; exact s0)
  clear s0 s2
  go_loopw [32] (fun i wr => ∃ k : Nat, k ≤ n ∧ i = .int .i64 k ∧ Hid (OutZ wr w1.heap.size n (partF (lessF W T f n) k)) ∧ Hid (Below w1.heap.size w1 wr) ∧ Hid (w1.heap.size < wr.heap.size)) (fun i _ => n - (intOf i).toNat)
  case atStart => exact ⟨0, Nat.zero_le _, rfl, Lib.hid (HO0.out.congr (fun j _ => (if_neg (Nat.not_lt_zero _)).symm)), HB3, HLT⟩
  case round =>
    clear HO0 HB3 HLT r2
    obtain ⟨k, hk, rfl, hO, hB, hL⟩ := hrel
    have HBw := Lib.hid (below_step HB1.out hB.out)
    by_cases hlt : k < n
    · obtain ⟨ba, oa, rfl, hba, ck⟩ := HA.out k hlt
      have ckr : wr.cell? ⟨ba, oa + k, none⟩ = some (.int .i64 (f k)) := by rw [HBw.out.cell (p := ⟨ba, oa + k, none⟩) hba]; exact ck
      have hKN := HKL.out k hlt
      obtain ⟨bg, og, rfl, hbg, cg⟩ := HGR.out _ hKN
      rw [HGG.out _ hKN] at cg
      have cgr : wr.cell? ⟨bg, og + tkF W T k, none⟩ = some (.int .i64 (medL (tlL (tkF W T) f (tkF W T k) n))) := by rw [hB.out.cell (p := ⟨bg, og + tkF W T k, none⟩) hbg]; exact cg
      have q0 := HSR.out wr hB.out
      obtain ⟨Q1, Q2, R1, R2, M, e1, e2, e3, e4, e5, e6, t1, t2, t3, t4, u1, u2, u3, u4, u5, u6, z1, z2, z3, z4, z5, z6⟩ := HNU.out k hlt
      obtain ⟨co, fo⟩ := hO.out k hlt
      have hmb := HLB.out k hlt
      have hfb := HFB.out k hlt
      have HP := Lib.hid (fun w' (h : OutZ w' w1.heap.size n (partF (lessF W T f n) k)) => h.part hlt)
      have hle : lessF W T f n k = f k - medL (tlL (tkF W T) f (tkF W T k) n) := rfl
      have hl1 : ba < w1.heap.size := Nat.lt_of_lt_of_le hba HB1.out.size
      generalize medL (tlL (tkF W T) f (tkF W T k) n) = md at *
      generalize partF (lessF W T f n) k = PF at *
      generalize tkF W T k = K at *
      generalize lessF W T f n k = lv at *
      generalize f k = x at *
      have HLE := Lib.hid hle
      have hwx : IntKind.i64.wrap (x - md) = x - md := IntWalk.i64_in _ (by omega)
      have b1 : (0 : Int) ≤ (K : Int) := by omega
      have b2 : (K : Int) < (N : Int) := by omega
      have HCell : Hid (∀ W', Below w1.heap.size w1 W' → W'.cell? ⟨w.heap.size, 0, none⟩ = some (.int .i64 W) ∧ W'.cell? ⟨bg, og + K, none⟩ = some (.int .i64 md)) := Lib.hid (fun W' hb => ⟨HSR.out W' hb, by rw [hb.cell (p := ⟨bg, og + K, none⟩) hbg]; exact cg⟩)
      have q9 : (wr.setCell ⟨w1.heap.size, k, none⟩ (.int .i64 (x - md))).drew.cell? ⟨w.heap.size, 0, none⟩ = some (.int .i64 W) ∧ (wr.setCell ⟨w1.heap.size, k, none⟩ (.int .i64 (x - md))).drew.cell? ⟨bg, og + K, none⟩ = some (.int .i64 md) := HCell.out _ (hB.out.setCell (p := ⟨w1.heap.size, k, none⟩) (Nat.le_refl _) _).drew
      clear ck cg hle
      go_wp2
      go_region_held3 (fun w' => w'.cell? ⟨w.heap.size, 0, none⟩ = some (.int .i64 W) ∧ w'.cell? ⟨bg, og + K, none⟩ = some (.int .i64 md))
        (first | exact q9 | go_keep)
        (fail)
      have HR := Lib.hid (HP.out wr hO.out)
      rw [← HLE.out]
      clear HCell HP HLE hO q9
      go_wp2
      go_roundw
      case rel => exact ⟨k + 1, by omega, by go_num, Lib.hid HR.out, Lib.hid (hB.out.setCell (p := ⟨w1.heap.size, k, none⟩) (Nat.le_refl _) _).drew, Lib.hid (by have := hL.out; simpa using this)⟩
      case measure => simp [intOf]; omega
    · have e : k = n := by omega
      subst e
      have HF : Hid (IRow wr (some ⟨w1.heap.size, 0, none⟩) k (lessF W T f k)) := Lib.hid hO.out.whole.row
      have hsz := HB1.out.size
      have HZ := Lib.hid hsz
      clear hO hB hL
      go_wp2
      go_ret2
      exact ⟨_, rfl, HF.out, HBw.out, HZ.out⟩
end Go.Proofs.YthbekddpnkammaaGreatDoor
