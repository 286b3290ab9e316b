/- spots.Find: its walk. -/
import Derived.Test.YthbekddpnkammaaGreatDoorSrtF
import Derived.Test.YthbekddpnkammaaGreatDoorFnd0
import Derived.BigRegion
namespace Go.Proofs.YthbekddpnkammaaGreatDoor
open Go.RowKit

set_option maxRecDepth 10000 in
set_option maxHeartbeats 16000000 in
theorem find_ok (ad : Nat → Addr) (W H T : Nat) (over least : Int) (f : Nat → Int) (a : Option Addr) (n cap : Nat) (w : World) (he : Errs w ad [1, 4]) (h : IRow w a n f) (g : picG W H n f) (hT : 1 ≤ T) (hT2 : T ≤ 256) (ho : 0 ≤ over) (hle : 1 ≤ least) :
    Calls Tryz.prog 20 #[.agg #[.int .i64 W, .int .i64 H, .slice a n cap], .int .i64 T, .int .i64 over, .int .i64 least] w fun e w' =>
      ∃ (g' c' : Nat) (M : Nat → Nat), e = .returned (.tuple #[.slice (some ⟨g', 0, none⟩) (foundL W (lessF W T f n) M n (rc (fun k => decide (over < lessF W T f n k)) W n n) least).length c', .nilIface]) ∧ FI (fun k => decide (over < lessF W T f n k)) W n n M ∧
        OutZ w' g' ((foundL W (lessF W T f n) M n (rc (fun k => decide (over < lessF W T f n k)) W n n) least).length * 9) (cellZ fun p => (foundL W (lessF W T f n) M n (rc (fun k => decide (over < lessF W T f n k)) W n n) least).getD p Sp.nil) ∧ Below w.heap.size w w' := by
  obtain ⟨i0, hi, hz0, hz1, hz2⟩ := info_parts info_spot
  have hn : n = H * W := by
    have : (n : Int) = ((W * H : Nat) : Int) := by rw [g.2.2.2.2.1]; push_cast; rfl
    rw [Nat.mul_comm]; omega
  have HV := Lib.hid (fun w' (hb : Below w.heap.size w w') => lit_ok ad W H T over f a n cap w' (he.below hb) (h.below hb) g hT hT2 ho)
  have HL := Lib.hid (fun w' (hb : Below w.heap.size w w') => less_ok ad W H T f a n cap w' (he.below hb) (h.below hb) g hT hT2)
  have HB0 : Hid (∀ o1 o2, Below w.heap.size w ((w.alloc o1).alloc o2)) := Lib.hid (fun o1 o2 => below2 o1 o2)
  have d0 : decide (least < 1) = false := by simp; omega
  obtain ⟨n1, n2⟩ := area_bd g
  have hW := g.1
  have hW2 := g.2.1
  have hH2 := g.2.2.2.1
  have HLA := Lib.hid (fun (lit : Nat → Bool) pa ca W' (hL : Bools W' pa n lit) => label_any lit n W (by omega) (by rw [hn]; exact Nat.mul_mod_left _ _) n2 pa ca W' hL)
  have HCN := Lib.hid g.2.2.2.2.2
  have HDV : Hid (∀ i, i < n → i / W ≤ 256 ∧ i % W ≤ 256) := Lib.hid (fun i hi => by
    have h1 : i / W < H := (Nat.div_lt_iff_lt_mul (by omega)).2 (by rw [← hn]; exact hi)
    have h2 := Nat.mod_lt i (show 0 < W by omega)
    exact ⟨by omega, by omega⟩)
  clear he h g hn
  go_enter Tryz.func20, Tryz.ntmps20
  go_wp2_with fail
  refine (HV.out _ (HB0.out _ _)).mono ?_; rintro e w1 ⟨gb, rfl, hlit, hb1⟩
  have s0 : w1.cell? ⟨w.heap.size, 0, none⟩ = some (.int .i64 W) := by rw [hb1.cell (p := ⟨w.heap.size, 0, none⟩) (by simp; omega)]; simp
  have s1 : w1.cell? ⟨w.heap.size, 1, none⟩ = some (.int .i64 H) := by rw [hb1.cell (p := ⟨w.heap.size, 1, none⟩) (by simp; omega)]; simp
  have s2 : w1.cell? ⟨w.heap.size, 2, none⟩ = some (.slice a n cap) := by rw [hb1.cell (p := ⟨w.heap.size, 2, none⟩) (by simp; omega)]; simp
  have s3 : w1.cell? ⟨w.heap.size + 1, 0, none⟩ = some (.int .i64 least) := by rw [hb1.cell (p := ⟨w.heap.size + 1, 0, none⟩) (by simp)]; simp
  have HB1 := Lib.hid (below_step (HB0.out _ _) hb1)
  have HLT := Lib.hid hlit
  clear hb1 HV hlit
  go_wp2_with fail
  refine (HL.out _ HB1.out).mono ?_; rintro e w2 ⟨gl, rfl, hl, hb2, hgl⟩
  have hs3 : w.heap.size + 1 < w1.heap.size := cell_lt s3
  have HS2 : Hid (∀ W', Below w1.heap.size w1 W' → W'.cell? ⟨w.heap.size, 0, none⟩ = some (.int .i64 W) ∧ W'.cell? ⟨w.heap.size + 1, 0, none⟩ = some (.int .i64 least)) := Lib.hid (fun W' hb => ⟨by rw [hb.cell (p := ⟨w.heap.size, 0, none⟩) (show w.heap.size < w1.heap.size by omega)]; exact s0, by rw [hb.cell (p := ⟨w.heap.size + 1, 0, none⟩) hs3]; exact s3⟩)
  have HB12 := Lib.hid hb2
  have HB2 := Lib.hid hb2
  have HLS := Lib.hid hl
  obtain ⟨q0, q3⟩ := HS2.out w2 hb2
  clear hb2 hl s0 s1 s2 s3 HL
  go_wp2_with fail
  refine (HLA.out _ _ _ w2 (HLT.out.below HB2.out)).mono ?_; rintro e w3 ⟨M, rfl, hM, hF⟩
  have HB3 := Lib.hid (below_step HB2.out hM.2.1)
  have HMR := Lib.hid (fun k (hk : k < n) => (hM.1 k hk).1)
  have hw3 := hM.2.2.1
  have hM21 := hM.2.1
  have HFI := Lib.hid hF
  have HLE := Lib.hid (HLS.out.below hM.2.1)
  have hrc := rc_le (lit := fun k => decide (over < lessF W T f n k)) (wide := W) (n := n) n
  have HMB : Hid (∀ k, k < n → M k ≤ rc (fun k => decide (over < lessF W T f n k)) W n n) := Lib.hid (fun k hk => (fi_lit hF hk).1)
  have HLI : Hid (∀ i, i < n → M i ≠ 0 → 1 ≤ lessF W T f n i) := Lib.hid (fun i hi h => by
    have := of_decide_eq_true ((fi_lit hF hi).2 h)
    omega)
  clear hM hF HLA q0 q3 HLT HLS
  generalize hmm : rc (fun k => decide (over < lessF W T f n k)) W n n = m at *
  have HMM := Lib.hid hmm
  clear hmm
  have hmw : IntKind.i64.wrap (m : Int) = (m : Int) := IntWalk.i64_in _ (by omega)
  go_wp2_with (refine wpList_make_full _ rfl (.tmp 52) (.tmp 52) 57 rfl w3.heap.size 36 i0 zero9 9 Tryz.underlying57 hi hz0 hz1 .i64 .i64 (m : Int) (m : Int) m rfl rfl rfl rfl (by rw [hz2]; omega) (by unfold maxLen; omega) (Nat.le_refl _) ?_; (intro w4 hown hgrow; have HO0 := Lib.hid (spots_made hown); have HB4 := Lib.hid ((Below.refl _ _).grown hgrow (Nat.le_refl _) (fun j hj => by cases hj)); have HL4 := Lib.hid (hown.lt _ rfl).2; clear hown hgrow))
  have HG3 := Lib.hid (show w2.heap.size < w3.heap.size from hw3)
  have hBL := HB3.out.size
  have HW13 : Hid (Below w1.heap.size w1 w3) := Lib.hid (below_step HB12.out hM21)
  clear hM21
  generalize hg : w3.heap.size = g at *
  go_loopw [56] (fun i wr => ∃ k : Nat, k ≤ n ∧ i = .int .i64 k ∧ Hid (OutZ wr g (m * 9) (cellZ fun p => stS W (lessF W T f n) M p k)) ∧ Hid (Below g w3 wr) ∧ Hid (g < wr.heap.size)) (fun i _ => n - (intOf i).toNat)
  case atStart => exact ⟨0, Nat.zero_le _, rfl, HO0, HB4, HL4⟩
  case round =>
    clear HO0 HB4 HL4
    obtain ⟨k, hk, rfl, hO, hB, hL⟩ := hrel
    by_cases hlt : k < n
    · have ckr : wr.cell? ⟨w2.heap.size, k, none⟩ = some (.int .i64 (M k : Nat)) := by rw [hB.out.cell (p := ⟨w2.heap.size, k, none⟩) hw3]; exact HMR.out k hlt
      by_cases hM0 : M k = 0
      · have HD := Lib.hid (stS_dark W (lessF W T f n) M hM0)
        rw [hM0] at ckr
        clear hM0
        go_wp2
        go_roundw
        case rel => exact ⟨k + 1, by omega, by go_num, by rw [HD.out]; exact hO, hB, hL⟩
        case measure => simp [intOf]; omega
      · obtain ⟨p, hp⟩ : ∃ p, M k = p + 1 := ⟨M k - 1, by omega⟩
        have hpm : p < m := by have := HMB.out k hlt; omega
        have HNX := Lib.hid (stS_next W (lessF W T f n) M hp)
        obtain ⟨q0, _⟩ := HS2.out wr (HW13.out.trans (hB.out.mono (by rw [← hg]; exact HW13.out.size)))
        obtain ⟨mk, hmk⟩ : ∃ x, M k = x := ⟨_, rfl⟩
        rw [hmk] at ckr
        have b0 : ((mk : Int) == 0) = false := by simp; omega
        have b1 : (mk : Int) - 1 = (p : Int) := by omega
        have b2 : IntKind.i64.wrap (p : Int) = (p : Int) := IntWalk.i64_in _ (by omega)
        have b3 : (0 : Int) ≤ (p : Int) := by omega
        have b4 : (p : Int) < (m : Int) := by omega
        clear hM0 hp hmk
        have hLr := HLE.out.at hlt
        obtain ⟨bl, ol, e0, hbl, cl⟩ := hLr
        cases e0
        rw [Nat.zero_add] at cl
        have clr : wr.cell? ⟨gl, k, none⟩ = some (.int .i64 (lessF W T f n k)) := by rw [hB.out.cell (p := ⟨gl, k, none⟩) (by rw [← hg]; exact hbl)]; exact cl
        have HCl : Hid (∀ W', Below g w3 W' → W'.cell? ⟨gl, k, none⟩ = some (.int .i64 (lessF W T f n k))) := Lib.hid (fun W' hb => by rw [hb.cell (p := ⟨gl, k, none⟩) (by rw [← hg]; exact hbl)]; exact cl)
        have hlb := lessF_bd (W := W) (T := T) HCN.out hlt
        have hbd := stS_bd (M := M) (W := W) (n := n) (l := lessF W T f n) (by omega) (by omega) (fun i hi => (HDV.out i hi).1) (fun i hi => lessF_bd HCN.out hi) p k hk
        obtain ⟨s, hs⟩ : ∃ s, stS W (lessF W T f n) M p k = s := ⟨_, rfl⟩
        have HC0 : Hid (OutZ wr g (m * 9) (cellZ (setS (fun p => stS W (lessF W T f n) M p k) p s))) := Lib.hid (by rw [← hs, setS_self (fun p => stS W (lessF W T f n) M p k) p]; exact hO.out)
        rw [hs] at hbd
        have HSE := Lib.hid hs
        clear hs hO cl
        have hbs := hbd.start W
        rcases s with ⟨sL, sT, sR, sO, sP, sI, sX, sY, sS⟩
        generalize hlk : lessF W T f n k = lk at *
        have HLK := Lib.hid hlk
        clear hlk
        obtain ⟨hxb, hyb⟩ := (HDV.out k hlt).symm
        have e1 : (k : Int) / (W : Int) = ((k / W : Nat) : Int) := (Int.natCast_ediv _ _).symm
        have e3 : (k : Int) % (W : Int) = ((k % W : Nat) : Int) := (Int.natCast_emod _ _).symm
        have t1 : (k : Int).tdiv (W : Int) = ((k / W : Nat) : Int) := (Int.tdiv_eq_ediv_of_nonneg (Int.natCast_nonneg _)).trans e1
        have t3 : (k : Int).tmod (W : Int) = ((k % W : Nat) : Int) := (Int.tmod_eq_emod_of_nonneg (Int.natCast_nonneg _)).trans e3
        obtain ⟨x, hx⟩ : ∃ x, k % W = x := ⟨_, rfl⟩
        obtain ⟨y, hy⟩ : ∃ y, k / W = y := ⟨_, rfl⟩
        rw [hx] at e3 t3 hxb
        rw [hy] at e1 t1 hyb
        have HXY := Lib.hid (And.intro hx hy)
        clear hx hy
        have u1 : IntKind.i64.wrap (x : Int) = (x : Int) := IntWalk.i64_in _ (by omega)
        have u2 : IntKind.i64.wrap (y : Int) = (y : Int) := IntWalk.i64_in _ (by omega)
        have z1 : ¬ ((W : Int) = 0) := by omega
        have z2 : ¬ (W = 0) := by omega
        have z3 : ((W : Int) == 0) = false := by simp; omega
        go_wp2
        go_quiet (fail)
        have HCd : Hid (OutZ (wr.drewN nq) g (m * 9) (cellZ (setS (fun p => stS W (lessF W T f n) M p k) p ⟨sL, sT, sR, sO, sP, sI, sX, sY, sS⟩))) := Lib.hid HC0.out.drewN1
        have HBd := Lib.hid (below_drewN hB.out nq)
        have hLd : g < (wr.drewN nq).heap.size := by simpa using hL.out
        clear HC0 hB hL clr ckr q0 t1 t3 e1 e3 u1 u2 z1 z2 z3
        generalize wr.drewN nq = wd at *
        obtain ⟨⟨c0, c1, c2, c3, c4, c5, c6, c7, c8⟩, f0, f1, f2, f3, f4, f5, f6, f7, f8⟩ := cells9 hpm HCd.out
        have hpt : ∃ t : Sp, Aside (t = if sP = 0 then firstS W k else ⟨sL, sT, sR, sO, sP, sI, sX, sY, sS⟩) := ⟨_, rfl⟩
        obtain ⟨t, hpt⟩ := hpt
        have hbt : Aside (Bd k t) := by rw [hpt]; exact hbs
        have HUP : Hid ((fun q => stS W (lessF W T f n) M q (k + 1)) = setS (fun q => stS W (lessF W T f n) M q k) p (addS W (lessF W T f n) k t)) := Lib.hid (by
          rw [HNX.out, HSE.out, hpt]
          rfl)
        clear hbs
        by_cases hP0 : sP = 0
        · have HF : Hid (firstS W k = ⟨x, y, x, y, 0, 0, 0, 0, 0⟩) := Lib.hid (by unfold firstS; rw [HXY.out.1, HXY.out.2])
          have HT9 : Hid (OutZ (((((((((wd.setCell ⟨g, p * 9, none⟩ (.int .i64 (x : Int))).setCell ⟨g, p * 9 + 1, none⟩ (.int .i64 (y : Int))).setCell ⟨g, p * 9 + 2, none⟩ (.int .i64 (x : Int))).setCell ⟨g, p * 9 + 3, none⟩ (.int .i64 (y : Int))).setCell ⟨g, p * 9 + 4, none⟩ (.int .i64 0)).setCell ⟨g, p * 9 + 5, none⟩ (.int .i64 0)).setCell ⟨g, p * 9 + 6, none⟩ (.int .i64 0)).setCell ⟨g, p * 9 + 7, none⟩ (.int .i64 0)).setCell ⟨g, p * 9 + 8, none⟩ (.int .i64 0)) g (m * 9) (cellZ (setS (fun p => stS W (lessF W T f n) M p k) p t))) := Lib.hid (by
            rw [hpt, if_pos hP0, HF.out]
            exact OutZ.fieldS rfl hpm 8 (by decide) (OutZ.fieldS rfl hpm 7 (by decide) (OutZ.fieldS rfl hpm 6 (by decide) (OutZ.fieldS rfl hpm 5 (by decide) (OutZ.fieldS rfl hpm 4 (by decide) (OutZ.fieldS rfl hpm 3 (by decide) (OutZ.fieldS rfl hpm 2 (by decide) (OutZ.fieldS rfl hpm 1 (by decide) (OutZ.field0 rfl hpm HCd.out)))))))))
          have HB9 := Lib.hid (((((((((HBd.out.setCell (p := ⟨g, p * 9, none⟩) (Nat.le_refl _) (.int .i64 (x : Int))).setCell (p := ⟨g, p * 9 + 1, none⟩) (Nat.le_refl _) (.int .i64 (y : Int))).setCell (p := ⟨g, p * 9 + 2, none⟩) (Nat.le_refl _) (.int .i64 (x : Int))).setCell (p := ⟨g, p * 9 + 3, none⟩) (Nat.le_refl _) (.int .i64 (y : Int))).setCell (p := ⟨g, p * 9 + 4, none⟩) (Nat.le_refl _) (.int .i64 0)).setCell (p := ⟨g, p * 9 + 5, none⟩) (Nat.le_refl _) (.int .i64 0)).setCell (p := ⟨g, p * 9 + 6, none⟩) (Nat.le_refl _) (.int .i64 0)).setCell (p := ⟨g, p * 9 + 7, none⟩) (Nat.le_refl _) (.int .i64 0)).setCell (p := ⟨g, p * 9 + 8, none⟩) (Nat.le_refl _) (.int .i64 0))
          have hLx : g < (((((((((wd.setCell ⟨g, p * 9, none⟩ (.int .i64 (x : Int))).setCell ⟨g, p * 9 + 1, none⟩ (.int .i64 (y : Int))).setCell ⟨g, p * 9 + 2, none⟩ (.int .i64 (x : Int))).setCell ⟨g, p * 9 + 3, none⟩ (.int .i64 (y : Int))).setCell ⟨g, p * 9 + 4, none⟩ (.int .i64 0)).setCell ⟨g, p * 9 + 5, none⟩ (.int .i64 0)).setCell ⟨g, p * 9 + 6, none⟩ (.int .i64 0)).setCell ⟨g, p * 9 + 7, none⟩ (.int .i64 0)).setCell ⟨g, p * 9 + 8, none⟩ (.int .i64 0)).heap.size := by simpa using hLd
          subst hP0
          go_wp2
          clear c0 c1 c2 c3 c4 c5 c6 c7 c8 f0 f1 f2 f3 f4 f5 f6 f7 f8 HCd HBd
          generalize ((((((((wd.setCell ⟨g, p * 9, none⟩ (.int .i64 (x : Int))).setCell ⟨g, p * 9 + 1, none⟩ (.int .i64 (y : Int))).setCell ⟨g, p * 9 + 2, none⟩ (.int .i64 (x : Int))).setCell ⟨g, p * 9 + 3, none⟩ (.int .i64 (y : Int))).setCell ⟨g, p * 9 + 4, none⟩ (.int .i64 0)).setCell ⟨g, p * 9 + 5, none⟩ (.int .i64 0)).setCell ⟨g, p * 9 + 6, none⟩ (.int .i64 0)).setCell ⟨g, p * 9 + 7, none⟩ (.int .i64 0)).setCell ⟨g, p * 9 + 8, none⟩ (.int .i64 0) = wx at *
          rcases t with ⟨tL, tT, tR, tO, tP, tI, tX, tY, tS⟩
          have HAD : Hid (addS W (lessF W T f n) k ⟨tL, tT, tR, tO, tP, tI, tX, tY, tS⟩ = ⟨min tL x, tT, max tR x, y, tP + 1, tI + lk, tX + (1024 * (x : Int) + 512) * lk, tY + (1024 * (y : Int) + 512) * lk, tS⟩) := Lib.hid (by
            unfold addS
            rw [HXY.out.1, HXY.out.2, HLK.out])
          obtain ⟨⟨c0, c1, c2, c3, c4, c5, c6, c7, c8⟩, f0, f1, f2, f3, f4, f5, f6, f7, f8⟩ := cells9 hpm HT9.out
          have cld := HCl.out wx HB9.out
          have hLd : g < wx.heap.size := by first | exact hLx | exact hLd
          obtain ⟨p0, p1, l0, l1, x0, x1, y0, y1⟩ := hbt
          simp only at p0 p1 l0 l1 x0 x1 y0 y1
          have hxr : (0 : Int) ≤ (x : Int) ∧ (x : Int) ≤ 256 := by omega
          have hyr : (0 : Int) ≤ (y : Int) ∧ (y : Int) ≤ 256 := by omega
          obtain ⟨m1, m2⟩ := prod_bd (a := 1024 * (x : Int) + 512) (b := lk) (by omega) (by omega) hlb.1 hlb.2
          obtain ⟨m3, m4⟩ := prod_bd (a := 1024 * (y : Int) + 512) (b := lk) (by omega) (by omega) hlb.1 hlb.2
          have kb : (k : Int) ≤ 65536 := by omega
          have v1 : IntKind.i64.wrap (tP + 1) = tP + 1 := IntWalk.i64_in _ (by omega)
          have v2 : IntKind.i64.wrap (tI + lk) = tI + lk := IntWalk.i64_in _ (by omega)
          have v3 : IntKind.i64.wrap ((1024 * (x : Int) + 512) * lk) = (1024 * (x : Int) + 512) * lk := IntWalk.i64_in _ (by omega)
          have v4 : IntKind.i64.wrap ((1024 * (y : Int) + 512) * lk) = (1024 * (y : Int) + 512) * lk := IntWalk.i64_in _ (by omega)
          have v5 : IntKind.i64.wrap (tX + (1024 * (x : Int) + 512) * lk) = tX + (1024 * (x : Int) + 512) * lk := IntWalk.i64_in _ (by omega)
          have v6 : IntKind.i64.wrap (tY + (1024 * (y : Int) + 512) * lk) = tY + (1024 * (y : Int) + 512) * lk := IntWalk.i64_in _ (by omega)
          have v7 : IntKind.i64.wrap (1024 * (x : Int)) = 1024 * (x : Int) := IntWalk.i64_in _ (by omega)
          have v8 : IntKind.i64.wrap (1024 * (y : Int)) = 1024 * (y : Int) := IntWalk.i64_in _ (by omega)
          have v9 : IntKind.i64.wrap (1024 * (x : Int) + 512) = 1024 * (x : Int) + 512 := IntWalk.i64_in _ (by omega)
          have v10 : IntKind.i64.wrap (1024 * (y : Int) + 512) = 1024 * (y : Int) + 512 := IntWalk.i64_in _ (by omega)
          go_region
          go_wp2
          go_region
          go_wp2
          go_region
          go_wp2
          go_region
          go_wp2
          go_roundw
          case rel =>
            refine ⟨k + 1, by omega, by go_num, Lib.hid ?_, Lib.hid ?_, Lib.hid ?_⟩
            · rw [HUP.out, HAD.out]
              repeat' first | with_reducible refine OutZ.drew1 ?_ | with_reducible refine OutZ.drewN1 ?_
              exact OutZ.fieldS rfl hpm 7 (by decide) (OutZ.fieldS rfl hpm 6 (by decide) (OutZ.fieldS rfl hpm 5 (by decide) (OutZ.fieldS rfl hpm 4 (by decide) (OutZ.fieldS rfl hpm 3 (by decide) (OutZ.fieldS rfl hpm 2 (by decide) (OutZ.field0 rfl hpm HT9.out))))))
            · repeat' with_reducible refine Below.drew ?_
              exact (((((((HB9.out.setCell (p := ⟨g, p * 9, none⟩) (Nat.le_refl _) _).setCell (p := ⟨g, p * 9 + 2, none⟩) (Nat.le_refl _) _).setCell (p := ⟨g, p * 9 + 3, none⟩) (Nat.le_refl _) _).setCell (p := ⟨g, p * 9 + 4, none⟩) (Nat.le_refl _) _).setCell (p := ⟨g, p * 9 + 5, none⟩) (Nat.le_refl _) _).setCell (p := ⟨g, p * 9 + 6, none⟩) (Nat.le_refl _) _).setCell (p := ⟨g, p * 9 + 6 + 1, none⟩) (Nat.le_refl _) _)
            · simpa using hLd
          case measure => simp [intOf]; omega
        · have b5 : (sP == 0) = false := by simp; omega
          have HT9 : Hid (OutZ wd g (m * 9) (cellZ (setS (fun p => stS W (lessF W T f n) M p k) p t))) := Lib.hid (by rw [hpt, if_neg hP0]; exact HCd.out)
          have HB9 := HBd
          go_wp2
          clear c0 c1 c2 c3 c4 c5 c6 c7 c8 f0 f1 f2 f3 f4 f5 f6 f7 f8 HCd HBd
          generalize wd = wx at *
          rcases t with ⟨tL, tT, tR, tO, tP, tI, tX, tY, tS⟩
          have HAD : Hid (addS W (lessF W T f n) k ⟨tL, tT, tR, tO, tP, tI, tX, tY, tS⟩ = ⟨min tL x, tT, max tR x, y, tP + 1, tI + lk, tX + (1024 * (x : Int) + 512) * lk, tY + (1024 * (y : Int) + 512) * lk, tS⟩) := Lib.hid (by
            unfold addS
            rw [HXY.out.1, HXY.out.2, HLK.out])
          obtain ⟨⟨c0, c1, c2, c3, c4, c5, c6, c7, c8⟩, f0, f1, f2, f3, f4, f5, f6, f7, f8⟩ := cells9 hpm HT9.out
          have cld := HCl.out wx HB9.out
          have hLd : g < wx.heap.size := by first | exact hLx | exact hLd
          obtain ⟨p0, p1, l0, l1, x0, x1, y0, y1⟩ := hbt
          simp only at p0 p1 l0 l1 x0 x1 y0 y1
          have hxr : (0 : Int) ≤ (x : Int) ∧ (x : Int) ≤ 256 := by omega
          have hyr : (0 : Int) ≤ (y : Int) ∧ (y : Int) ≤ 256 := by omega
          obtain ⟨m1, m2⟩ := prod_bd (a := 1024 * (x : Int) + 512) (b := lk) (by omega) (by omega) hlb.1 hlb.2
          obtain ⟨m3, m4⟩ := prod_bd (a := 1024 * (y : Int) + 512) (b := lk) (by omega) (by omega) hlb.1 hlb.2
          have kb : (k : Int) ≤ 65536 := by omega
          have v1 : IntKind.i64.wrap (tP + 1) = tP + 1 := IntWalk.i64_in _ (by omega)
          have v2 : IntKind.i64.wrap (tI + lk) = tI + lk := IntWalk.i64_in _ (by omega)
          have v3 : IntKind.i64.wrap ((1024 * (x : Int) + 512) * lk) = (1024 * (x : Int) + 512) * lk := IntWalk.i64_in _ (by omega)
          have v4 : IntKind.i64.wrap ((1024 * (y : Int) + 512) * lk) = (1024 * (y : Int) + 512) * lk := IntWalk.i64_in _ (by omega)
          have v5 : IntKind.i64.wrap (tX + (1024 * (x : Int) + 512) * lk) = tX + (1024 * (x : Int) + 512) * lk := IntWalk.i64_in _ (by omega)
          have v6 : IntKind.i64.wrap (tY + (1024 * (y : Int) + 512) * lk) = tY + (1024 * (y : Int) + 512) * lk := IntWalk.i64_in _ (by omega)
          have v7 : IntKind.i64.wrap (1024 * (x : Int)) = 1024 * (x : Int) := IntWalk.i64_in _ (by omega)
          have v8 : IntKind.i64.wrap (1024 * (y : Int)) = 1024 * (y : Int) := IntWalk.i64_in _ (by omega)
          have v9 : IntKind.i64.wrap (1024 * (x : Int) + 512) = 1024 * (x : Int) + 512 := IntWalk.i64_in _ (by omega)
          have v10 : IntKind.i64.wrap (1024 * (y : Int) + 512) = 1024 * (y : Int) + 512 := IntWalk.i64_in _ (by omega)
          go_region
          go_wp2
          go_region
          go_wp2
          go_region
          go_wp2
          go_region
          go_wp2
          go_roundw
          case rel =>
            refine ⟨k + 1, by omega, by go_num, Lib.hid ?_, Lib.hid ?_, Lib.hid ?_⟩
            · rw [HUP.out, HAD.out]
              repeat' first | with_reducible refine OutZ.drew1 ?_ | with_reducible refine OutZ.drewN1 ?_
              exact OutZ.fieldS rfl hpm 7 (by decide) (OutZ.fieldS rfl hpm 6 (by decide) (OutZ.fieldS rfl hpm 5 (by decide) (OutZ.fieldS rfl hpm 4 (by decide) (OutZ.fieldS rfl hpm 3 (by decide) (OutZ.fieldS rfl hpm 2 (by decide) (OutZ.field0 rfl hpm HT9.out))))))
            · repeat' with_reducible refine Below.drew ?_
              exact (((((((HB9.out.setCell (p := ⟨g, p * 9, none⟩) (Nat.le_refl _) _).setCell (p := ⟨g, p * 9 + 2, none⟩) (Nat.le_refl _) _).setCell (p := ⟨g, p * 9 + 3, none⟩) (Nat.le_refl _) _).setCell (p := ⟨g, p * 9 + 4, none⟩) (Nat.le_refl _) _).setCell (p := ⟨g, p * 9 + 5, none⟩) (Nat.le_refl _) _).setCell (p := ⟨g, p * 9 + 6, none⟩) (Nat.le_refl _) _).setCell (p := ⟨g, p * 9 + 6 + 1, none⟩) (Nat.le_refl _) _)
            · simpa using hLd
          case measure => simp [intOf]; omega
    · have ek : k = n := by omega
      have HOn : Hid (OutZ wr g (m * 9) (cellZ fun p => stS W (lessF W T f n) M p n)) := Lib.hid (by have h := hO.out; rwa [ek] at h)
      have hBr : Below w1.heap.size w1 wr := HW13.out.trans (hB.out.mono (by rw [← hg]; exact HW13.out.size))
      have hqc := (HS2.out wr hBr).2
      have HBX := Lib.hid (below_step HB1.out hBr)
      have HGW := hL.out
      have HD := Lib.hid (deleteSp_any (fun p => stS W (lessF W T f n) M p n) least g m m (w.heap.size + 1) (by omega) wr hqc (by rw [← hg]; have := HW13.out.size; omega) hL.out (Nat.le_refl _) HOn.out)
      have HST : Hid (∀ s, s ∈ stayL (fun p => stS W (lessF W T f n) M p n) least m → 1 ≤ s.Li ∧ s.Li ≤ 4294967296 ∧ -1128085742198784 ≤ s.X ∧ s.X ≤ 1128085742198784 ∧ -1128085742198784 ≤ s.Y ∧ s.Y ≤ 1128085742198784) := Lib.hid (fun s hs => by
        obtain ⟨p, _, rfl, h2⟩ := stayL_mem hs
        have h3 := stS_light (W := W) p HLI.out n (Nat.le_refl _)
        have hbd := stS_bd (M := M) (W := W) (n := n) (l := lessF W T f n) (by omega) (by omega) (fun i hi => (HDV.out i hi).1) (fun i hi => lessF_bd HCN.out hi) p n (Nat.le_refl _)
        obtain ⟨p0, p1, l0, l1, x0, x1, y0, y1⟩ := hbd
        refine ⟨by omega, by omega, by omega, by omega, by omega, by omega⟩)
      have HMG := Lib.hid (map_getD (stayL (fun p => stS W (lessF W T f n) M p n) least m))
      have HFD : Hid (foundL W (lessF W T f n) M n m least = placeAll ((stayL (fun p => stS W (lessF W T f n) M p n) least m).map starS)) := Lib.hid rfl
      have hlen := stayL_len (fun p => stS W (lessF W T f n) M p n) least m
      clear hO hB hL HOn hqc hBr ek
      generalize hLs : stayL (fun p => stS W (lessF W T f n) M p n) least m = Ls at *
      clear hLs
      go_wp2_with fail
      refine HD.out.mono ?_; rintro e w5 ⟨c5, rfl, hO5, hB5, hZ5⟩
      have HO5 := Lib.hid hO5
      have HB5 := Lib.hid hB5
      have hg5 : g < w5.heap.size := by omega
      clear hO5 hB5 HD
      generalize hN : Ls.length = N at *
      have HN := Lib.hid hN
      clear hN
      go_wp2
      go_loopw [167] (fun i wr2 => ∃ k : Nat, k ≤ N ∧ i = .int .i64 k ∧ Hid (OutZ wr2 g (N * 9) (cellZ fun p => if p < k then starS (Ls.getD p Sp.nil) else Ls.getD p Sp.nil)) ∧ Hid (Below g w5 wr2) ∧ Hid (g < wr2.heap.size)) (fun i _ => N - (intOf i).toNat)
      case atStart => exact ⟨0, Nat.zero_le _, rfl, Lib.hid (HO5.out.congr (fun j _ => by
          show (Ls.getD (j / 9) Sp.nil).fld (j % 9) = (if j / 9 < 0 then starS (Ls.getD (j / 9) Sp.nil) else Ls.getD (j / 9) Sp.nil).fld (j % 9)
          rw [if_neg (Nat.not_lt_zero _)])), Lib.hid (Below.refl _ _), Lib.hid hg5⟩
      case round =>
        obtain ⟨t, ht, rfl, hO, hB, hL⟩ := hrel
        by_cases htn : t < N
        · obtain ⟨c0, c1, c2, c3, c4, c5', c6, c7, c8⟩ := cell9' hO.out htn
          obtain ⟨f0, f1, f2, f3, f4, f5, f6, f7, f8⟩ := frz9 hO.out htn
          rw [if_neg (Nat.lt_irrefl _)] at c0 c1 c2 c3 c4 c5' c6 c7 c8
          obtain ⟨b0, b1, b2, b3, b4, b5⟩ := HST.out _ (getD_mem (L := Ls) (p := t) (by rw [HN.out]; exact htn))
          obtain ⟨s, hs⟩ : ∃ s, Ls.getD t Sp.nil = s := ⟨_, rfl⟩
          rw [hs] at c0 c1 c2 c3 c4 c5' c6 c7 c8 b0 b1 b2 b3 b4 b5
          have HSE := Lib.hid hs
          clear hs
          obtain ⟨sL, sT, sR, sO, sP, sI, sX, sY, sS⟩ := s
          simp only at c0 c1 c2 c3 c4 c5' c6 c7 c8 b0 b1 b2 b3 b4 b5
          have dx := tdiv_bd b0 b2 b3
          have dy := tdiv_bd b0 b4 b5
          have z1 : ¬ (sI = 0) := by omega
          have z2 : (sI == 0) = false := by simp; omega
          have u1 : IntKind.i64.wrap (sX.tdiv sI) = sX.tdiv sI := IntWalk.i64_in _ (by omega)
          have u2 : IntKind.i64.wrap (sY.tdiv sI) = sY.tdiv sI := IntWalk.i64_in _ (by omega)
          have HNX : Hid ((fun p => if p < t + 1 then starS (Ls.getD p Sp.nil) else Ls.getD p Sp.nil) = setS (fun p => if p < t then starS (Ls.getD p Sp.nil) else Ls.getD p Sp.nil) t (starS ⟨sL, sT, sR, sO, sP, sI, sX, sY, sS⟩)) := Lib.hid (by
            funext p
            show (if p < t + 1 then starS (Ls.getD p Sp.nil) else Ls.getD p Sp.nil) = (if p = t then starS ⟨sL, sT, sR, sO, sP, sI, sX, sY, sS⟩ else if p < t then starS (Ls.getD p Sp.nil) else Ls.getD p Sp.nil)
            by_cases e : p = t
            · rw [if_pos e, if_pos (by omega), e, HSE.out]
            · rw [if_neg e]
              by_cases c : p < t
              · rw [if_pos c, if_pos (by omega)]
              · rw [if_neg c, if_neg (by omega)])
          have H0 : Hid (OutZ wr g (N * 9) (cellZ (setS (fun p => if p < t then starS (Ls.getD p Sp.nil) else Ls.getD p Sp.nil) t ⟨sL, sT, sR, sO, sP, sI, sX, sY, sS⟩))) := Lib.hid (by
            have h := setS_self (fun p => if p < t then starS (Ls.getD p Sp.nil) else Ls.getD p Sp.nil) t
            rw [if_neg (Nat.lt_irrefl _), HSE.out] at h
            rw [h]
            exact hO.out)
          clear hO
          go_wp2
          go_region
          go_wp2
          go_roundw
          case rel =>
            refine ⟨t + 1, by omega, by go_num, Lib.hid ?_, Lib.hid ?_, Lib.hid ?_⟩
            · rw [HNX.out]
              repeat' with_reducible refine OutZ.drew1 ?_
              exact OutZ.fieldS rfl htn 8 (by decide) (OutZ.fieldS rfl htn 7 (by decide) (OutZ.fieldS rfl htn 6 (by decide) H0.out))
            · repeat' with_reducible refine Below.drew ?_
              exact ((hB.out.setCell (p := ⟨g, t * 9 + 6, none⟩) (Nat.le_refl _) _).setCell (p := ⟨g, t * 9 + 6 + 1, none⟩) (Nat.le_refl _) _).setCell (p := ⟨g, t * 9 + 6 + 2, none⟩) (Nat.le_refl _) _
            · have := hL.out
              simpa using this
          case measure => simp [intOf]; omega
        · have et : t = N := by omega
          have HOe : Hid (OutZ wr g (N * 9) (cellZ fun p => starS (Ls.getD p Sp.nil))) := Lib.hid (hO.out.congr (fun j hj => by
            show (if j / 9 < t then starS (Ls.getD (j / 9) Sp.nil) else Ls.getD (j / 9) Sp.nil).fld (j % 9) = (starS (Ls.getD (j / 9) Sp.nil)).fld (j % 9)
            rw [if_pos (by omega)]))
          have HSO := Lib.hid (sortSp_any (fun p => starS (Ls.getD p Sp.nil)) g N c5 (by omega) wr hL.out HOe.out)
          rw [HMG.out] at HSO
          have HBr := Lib.hid hB.out
          have hgw : w.heap.size ≤ g := by have := HB1.out.size; omega
          clear hO hB hL HOe
          go_wp2_with fail
          refine HSO.out.mono ?_; rintro e w7 ⟨rfl, hO7, hl7, hB7⟩
          have HO7 := Lib.hid hO7
          have HL7 := Lib.hid hl7
          have HB7 := Lib.hid (HBX.out.trans (((HB5.out.trans HBr.out).trans hB7).mono hgw))
          clear hO7 hl7 hB7 HSO
          go_wp2
          go_ret2
          rw [HMM.out]
          refine ⟨g, c5, M, ?_, HFI.out, ?_, HB7.out⟩
          · rw [HFD.out, HL7.out]
            rfl
          · rw [HFD.out, HL7.out]
            exact HO7.out
end Go.Proofs.YthbekddpnkammaaGreatDoor
