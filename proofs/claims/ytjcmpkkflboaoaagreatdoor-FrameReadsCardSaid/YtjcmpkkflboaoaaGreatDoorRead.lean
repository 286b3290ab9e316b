/- frame.Read. -/
import Derived.Test.YtjcmpkkflboaoaaGreatDoorRdJ
import Derived.Test.YtjcmpkkflboaoaaGreatDoorPix
namespace Go.Proofs.YtjcmpkkflboaoaaGreatDoor
open Go.RowKit

set_option maxRecDepth 20000 in
set_option maxHeartbeats 2000000 in
theorem read_any (ad : Nat → Addr) (b : List UInt8) (a : Option Addr) (cap : Nat) (w : World) (he : Errs w ad [0, 1, 4, 7, 9]) (ht : Pow10 w) (hn : Nums w) (h : BSl w a b) (hc : b.length ≤ cap) (hl : b.length ≤ 400000) :
    Calls Tryz.prog 10 #[.slice a b.length cap] w fun e w' => RdPost b w ad e w' := by
  have hd : decide ((400000 : Int) < (b.length : Int)) = false := decide_eq_false (by omega)
  have HB0 := Lib.hid ((Below.refl w.heap.size w).alloc (Nat.le_refl _) (.cells #[.int .i64 0, .int .i64 0, .slice none 0 0] 33))
  have HE := Lib.hid (fun W' (hb : Below w.heap.size w W') => he.below hb)
  have HT := Lib.hid (fun W' (hb : Below w.heap.size w W') => ht.below hb)
  have HN := Lib.hid (fun W' (hb : Below w.heap.size w W') => hn.below hb)
  have HS := Lib.hid (fun W' (hb : Below w.heap.size w W') => h.below hb)
  clear he ht hn h
  obtain ⟨L, hL⟩ : ∃ L, b.length = L := ⟨_, rfl⟩
  rw [hL] at hc hl hd ⊢
  have HL := Lib.hid hL
  clear hL
  obtain ⟨ic, hc1, hc2, hc3, hc4⟩ := info_parts info_card
  obtain ⟨j0, hj, hy0, hy1, hy2⟩ := info_parts info_int'
  go_enter Tryz.func10, Tryz.ntmps10
  go_wp2
  have c0 : (w.alloc (.cells #[.int .i64 0, .int .i64 0, .slice none 0 0] 33)).cell? ⟨w.heap.size, 0, none⟩ = some (.int .i64 0) := by simp
  have c1 : (w.alloc (.cells #[.int .i64 0, .int .i64 0, .slice none 0 0] 33)).cell? ⟨w.heap.size, 1, none⟩ = some (.int .i64 0) := by simp
  have c2 : (w.alloc (.cells #[.int .i64 0, .int .i64 0, .slice none 0 0] 33)).cell? ⟨w.heap.size, 2, none⟩ = some (.slice none 0 0) := by simp
  have f0 : ∀ k, (w.alloc (.cells #[.int .i64 0, .int .i64 0, .slice none 0 0] 33)).frozen? ⟨w.heap.size, k, none⟩ = false := by intro k; simp
  have hl1 : w.heap.size < (w.alloc (.cells #[.int .i64 0, .int .i64 0, .slice none 0 0] 33)).heap.size := by simp
  generalize hW1 : w.alloc (.cells #[.int .i64 0, .int .i64 0, .slice none 0 0] 33) = W1 at *
  have HR0 : Hid (∀ W', Below W1.heap.size W1 W' → (W'.cell? ⟨w.heap.size, 0, none⟩ = some (.int .i64 0) ∧ W'.cell? ⟨w.heap.size, 1, none⟩ = some (.int .i64 0) ∧ W'.cell? ⟨w.heap.size, 2, none⟩ = some (.slice none 0 0)) ∧ (W'.frozen? ⟨w.heap.size, 0, none⟩ = false ∧ W'.frozen? ⟨w.heap.size, 1, none⟩ = false ∧ W'.frozen? ⟨w.heap.size, 2, none⟩ = false)) := Lib.hid (fun W' hb => ⟨⟨(hb.cell (p := ⟨w.heap.size, 0, none⟩) hl1).trans c0, (hb.cell (p := ⟨w.heap.size, 1, none⟩) hl1).trans c1, (hb.cell (p := ⟨w.heap.size, 2, none⟩) hl1).trans c2⟩, (hb.frozen (p := ⟨w.heap.size, 0, none⟩) hl1).trans (f0 0), (hb.frozen (p := ⟨w.heap.size, 1, none⟩) hl1).trans (f0 1), (hb.frozen (p := ⟨w.heap.size, 2, none⟩) hl1).trans (f0 2)⟩)
  clear c0 c1 c2 f0 hW1
  have HGe : Hid (¬ 3 = w.heap.size ∧ ¬ w.heap.size = 3) := Lib.hid (by
    have h7 : w.cell? ⟨3, 0, none⟩ = some (errV ad 7) := (HE.out w (Below.refl _ _)) 7 (by simp)
    have := cell_lt h7
    omega)
  refine wp_scope_inline 0 rfl ?_
  go_wp2
  have p0 : (W1.alloc (.cells #[.int .i64 0, .int .i64 0, .slice none 0 0] 33)).cell? ⟨W1.heap.size, 0, none⟩ = some (.int .i64 0) := by simp
  have p1 : (W1.alloc (.cells #[.int .i64 0, .int .i64 0, .slice none 0 0] 33)).cell? ⟨W1.heap.size, 1, none⟩ = some (.int .i64 0) := by simp
  have p2 : (W1.alloc (.cells #[.int .i64 0, .int .i64 0, .slice none 0 0] 33)).cell? ⟨W1.heap.size, 2, none⟩ = some (.slice none 0 0) := by simp
  have pf : ∀ k, (W1.alloc (.cells #[.int .i64 0, .int .i64 0, .slice none 0 0] 33)).frozen? ⟨W1.heap.size, k, none⟩ = false := by intro k; simp
  have hl2 : W1.heap.size < (W1.alloc (.cells #[.int .i64 0, .int .i64 0, .slice none 0 0] 33)).heap.size := by simp
  have HB12 := Lib.hid ((Below.refl W1.heap.size W1).alloc (Nat.le_refl _) (.cells #[.int .i64 0, .int .i64 0, .slice none 0 0] 33))
  have HB2 := Lib.hid (below_step HB0.out HB12.out)
  generalize W1.alloc (.cells #[.int .i64 0, .int .i64 0, .slice none 0 0] 33) = W2 at *
  have HP0 := Lib.hid p0
  have HP1 := Lib.hid p1
  have HP2 := Lib.hid p2
  have HPf := Lib.hid pf
  have HR0' := Lib.hid (fun W' (hb : Below W2.heap.size W2 W') => HR0.out W' (below_step HB12.out hb))
  have HRz := Lib.hid HR0.out
  have HB01 := Lib.hid HB0.out
  clear HR0 p0 p1 p2 pf HB0
  have HR0 := Lib.hid HR0'.out
  clear HR0'
  have hl12 : w.heap.size < W2.heap.size := by omega
  have G0 : Hid (GC W2.heap.size W2 (.slice none 0 0) [] W2) := Lib.hid ⟨World.ownsRow_nil _ _ _ _, Below.refl _ _, Nat.le_refl _⟩
  go_loopw [6, 9] (fun v x wr => ∃ q t : Nat, x = .int .i64 t ∧ t ≤ L ∧ Hid (t = 80 * q) ∧ Hid (∀ p, p < q → sl b (80 * p) 4 ≠ [69, 78, 68, 32]) ∧ Hid (GC W2.heap.size W2 v (crdsAt b q) wr)) (fun _ x _ => L - (intOf x).toNat)
  case atStart => exact ⟨0, 0, rfl, Nat.zero_le _, Lib.hid rfl, Lib.hid (fun p hp => absurd hp (Nat.not_lt_zero _)), G0⟩
  case round =>
    clear G0
    obtain ⟨q, t, rfl, htL, HTq, HNe, HG⟩ := hrel
    by_cases hfit : t + 80 ≤ L
    · have d1 : decide ((L : Int) < (t : Int) + 80) = false := decide_eq_false (by omega)
      have hLb := HL.out
      have HBr := Lib.hid (below_step HB2.out HG.out.2.1)
      rcases HS.out wr HBr.out with hnil | ⟨bb, ob, rfl, hbin⟩
      · rw [hnil] at hLb
        simp at hLb
        omega
      have hx : b[t + 3]? = some (b[t + 3]'(by omega)) := List.getElem?_eq_getElem _
      generalize (b[t + 3]'(by omega)) = x at *
      have hse := sl_end b t hx
      have hxc := hbin _ _ hx
      have hcv := hbin.conv (k := t) (n := 3) (cap := cap - t) (by omega)
      have hs3 : (bs (sl b t 3)).size = 3 := by rw [bs_size, sl_len (by omega)]
      have HEt : Hid ((bs (sl b t 3)).toList = sl b t 3) := Lib.hid (bs_toList _)
      have HBin := Lib.hid hbin
      have i1 : (0 : Int) ≤ (t : Int) := by omega
      have i2 : (t : Int) ≤ (t : Int) + 3 := by omega
      have i3 : (t : Int) + 3 ≤ (cap : Int) := by omega
      have i4 : ¬ cap = t := by omega
      have i5 : (t : Int) + 80 ≤ (cap : Int) := by omega
      rw [show (b.drop t).take 3 = sl b t 3 from rfl] at hcv
      clear hbin hx hLb
      have hcx : (x.toNat : Int) < 256 := by have := x.toNat_lt; omega
      generalize bs (sl b t 3) = s3 at *
      by_cases e4 : sl b t 4 = [69, 78, 68, 32]
      · have h3 := hse.1 e4
        have hE : (s3.toList == [69, 78, 68]) = true := by rw [HEt.out, h3.1, beq_self_eq_true]
        have hX : ((x.toNat : Int) == 32) = true := by rw [h3.2]; rfl
        have HE4 := Lib.hid e4
        clear hse HEt e4 h3
        generalize x.toNat = xn at *
        obtain ⟨aa, capp, rfl⟩ := HG.out.form
        have hRl := crdsAt_len b q
        have hq : q ≤ 5000 := by have := HTq.out; omega
        have HG' := HG.out
        rw [hRl] at HG' ⊢
        have HG := Lib.hid HG'
        clear HG'
        by_cases h6 : q < 6
        · have d6 : decide ((q : Int) < 6) = true := decide_eq_true (by omega)
          have HNf := Lib.hid (noFile_few (b := b) h6 (by rw [← HTq.out]; exact HE4.out))
          have HNo : Hid (¬ IsFile b) := Lib.hid (HNf.out)
          have HBj := Lib.hid (HG.out.2.1)
          have HBw := Lib.hid (below_step HB2.out HBj.out)
          obtain ⟨⟨c0, c1, c2⟩, f0, f1, f2⟩ := HR0.out _ HBj.out
          have e7 : World.cell? wr ⟨3, 0, none⟩ = some (errV ad 7) := (HE.out _ HBw.out) 7 (by simp)
          obtain ⟨hne, hne2⟩ := HGe.out
          have HBs := Lib.hid (((HBw.out.drew.setCell (p := ⟨w.heap.size, 0, none⟩) (Nat.le_refl _) (.int .i64 0)).setCell (p := ⟨w.heap.size, 1, none⟩) (Nat.le_refl _) (.int .i64 0)).setCell (p := ⟨w.heap.size, 2, none⟩) (Nat.le_refl _) (.slice none 0 0))
          have HPo := Lib.hid (fun W' (hb : Below w.heap.size w W') => RdPost.no (ad := ad) HNo.out hb)
          generalize errV ad 7 = ev7 at *
          clear HNo HE HT HN HS HR0 HBj HBw HNf HG HNe HTq HP0 HP1 HP2 HPf HBr HBin hRl HRz
          go_wp2
          go_step3
          refine ⟨rfl, ?_⟩
          go_wp2
          go_region_held3 (fun w' => w'.cell? ⟨3, 0, none⟩ = some ev7) (go_keep) (fail)
          all_goals
            go_wp2
            rw [Exit.noGoto_ret]
            refine bodyPost_ret (v := .tuple #[.agg #[.int .i64 0, .int .i64 0, .slice none 0 0], .slice none 0 0, ev7]) ?_ rfl ?_
            · simp [results, Tryz.results10, go_sem, c0, c1, c2]
            · exact HPo.out _ HBs.out
        · have d6 : decide ((q : Int) < 6) = false := decide_eq_false (by omega)
          have hcapp : q ≤ capp := by
            rcases HG.out.1.2 with ⟨e, h0⟩ | ⟨g, cap', cur, e, _, _, hh, _⟩
            · rw [hRl] at h0; omega
            · simp only [Value.slice.injEq] at e
              obtain ⟨_, _, rfl⟩ := e
              rw [hRl] at hh
              exact hh
          have hCR := HG.out.row (fun c hc => by
            have := crdsAt_short b q c hc
            have h1 := this.1
            have h2 := this.2
            omega)
          have hge := HG.out.1.lt
          obtain ⟨bR, oR, rfl, hbR, ⟨_, c3⟩, _, _⟩ := hCR.at (i := 3) (by omega)
          obtain ⟨bR', oR', e', _, ⟨_, c4⟩, _, _⟩ := hCR.at (i := 4) (by omega)
          obtain ⟨rfl, rfl⟩ : bR = bR' ∧ oR = oR' := by cases e'; exact ⟨rfl, rfl⟩
          have hneR : ¬ bR = W1.heap.size := by
            have := (hge bR rfl).1
            omega
          have hneR2 : ¬ bR = w.heap.size := by
            have := (hge bR rfl).1
            omega
          have hgeR : w.heap.size ≤ bR := by
            have := (hge bR rfl).1
            omega
          have e3 : vlC (crdsAt b q) 3 = (cardAt b 3).2 := by unfold vlC; rw [crdsAt_get b (by omega)]
          have e4 : vlC (crdsAt b q) 4 = (cardAt b 4).2 := by unfold vlC; rw [crdsAt_get b (by omega)]
          rw [e3] at c3
          rw [e4] at c4
          have HCR := Lib.hid hCR
          have HA3 := Lib.hid (fun W' hN => atoi_any (cardAt b 3).2 (by have := (cardAt_short b 3).2; omega) W' hN)
          have HA4 := Lib.hid (fun W' hN => atoi_any (cardAt b 4).2 (by have := (cardAt_short b 4).2; omega) W' hN)
          have HBz := Lib.hid (HG.out.2.1)
          have HEq := Lib.hid (show sl b (80 * q) 4 = [69, 78, 68, 32] ∧ ∀ p, p < q → sl b (80 * p) 4 ≠ [69, 78, 68, 32] from ⟨by rw [← HTq.out]; exact HE4.out, HNe.out⟩)
          clear hCR hge e3 e4 e' HG
          generalize bs (cardAt b 3).2 = sa3 at *
          generalize bs (cardAt b 4).2 = sa4 at *
          go_wp2_with fail
          refine (HA3.out wr (HN.out wr HBr.out)).mono ?_; rintro e w3 ⟨r1, ev1, rfl, HI1, hb3⟩
          have hz3 := below_step HBz.out hb3
          have x0 : w3.cell? ⟨W1.heap.size, 0, none⟩ = some (.int .i64 0) := (hz3.cell (p := ⟨W1.heap.size, 0, none⟩) hl2).trans HP0.out
          have x1 : w3.cell? ⟨W1.heap.size, 1, none⟩ = some (.int .i64 0) := (hz3.cell (p := ⟨W1.heap.size, 1, none⟩) hl2).trans HP1.out
          have x2 : w3.cell? ⟨W1.heap.size, 2, none⟩ = some (.slice none 0 0) := (hz3.cell (p := ⟨W1.heap.size, 2, none⟩) hl2).trans HP2.out
          have y0 : w3.frozen? ⟨W1.heap.size, 0, none⟩ = false := (hz3.frozen (p := ⟨W1.heap.size, 0, none⟩) hl2).trans (HPf.out 0)
          have y1 : w3.frozen? ⟨W1.heap.size, 1, none⟩ = false := (hz3.frozen (p := ⟨W1.heap.size, 1, none⟩) hl2).trans (HPf.out 1)
          have y2 : w3.frozen? ⟨W1.heap.size, 2, none⟩ = false := (hz3.frozen (p := ⟨W1.heap.size, 2, none⟩) hl2).trans (HPf.out 2)
          have d4 : w3.cell? ⟨bR, oR + 4 * 2 + 1, none⟩ = some (.string sa4) := (hb3.cell (p := ⟨bR, oR + 4 * 2 + 1, none⟩) hbR).trans c4
          have HCR3 := Lib.hid (HCR.out.below hb3)
          have HB13 := Lib.hid (below_step HB12.out hz3)
          clear hcv hs3 hxc hE hX hb3 hz3 c3 c4 HCR HA3
          go_wp2_with fail
          have HB14 := Lib.hid (HB13.out.setCell (p := ⟨W1.heap.size, 0, none⟩) (Nat.le_refl _) (.int .i64 r1))
          have HCR4 := Lib.hid (HCR3.out.set (k := 0) (v := .int .i64 r1) hneR)
          have z0 : (w3.setCell ⟨W1.heap.size, 0, none⟩ (.int .i64 r1)).cell? ⟨W1.heap.size, 0, none⟩ = some (.int .i64 r1) := setS x0
          have z1 : (w3.setCell ⟨W1.heap.size, 0, none⟩ (.int .i64 r1)).cell? ⟨W1.heap.size, 1, none⟩ = some (.int .i64 0) := (setO (by decide)).trans x1
          have z2 : (w3.setCell ⟨W1.heap.size, 0, none⟩ (.int .i64 r1)).cell? ⟨W1.heap.size, 2, none⟩ = some (.slice none 0 0) := (setO (by decide)).trans x2
          have v0 : (w3.setCell ⟨W1.heap.size, 0, none⟩ (.int .i64 r1)).frozen? ⟨W1.heap.size, 0, none⟩ = false := by simpa using y0
          have v1 : (w3.setCell ⟨W1.heap.size, 0, none⟩ (.int .i64 r1)).frozen? ⟨W1.heap.size, 1, none⟩ = false := by simpa using y1
          have v2 : (w3.setCell ⟨W1.heap.size, 0, none⟩ (.int .i64 r1)).frozen? ⟨W1.heap.size, 2, none⟩ = false := by simpa using y2
          have hl4 : W1.heap.size < (w3.setCell ⟨W1.heap.size, 0, none⟩ (.int .i64 r1)).heap.size := by have := cell_lt z0; exact this
          generalize w3.setCell ⟨W1.heap.size, 0, none⟩ (.int .i64 r1) = W4 at *
          refine (HA4.out W4 (HN.out W4 (below_step HB01.out HB14.out))).mono ?_; rintro e w5 ⟨r2, ev2, rfl, HI2, hb5⟩
          have m0 : w5.cell? ⟨W1.heap.size, 0, none⟩ = some (.int .i64 r1) := (hb5.cell (p := ⟨W1.heap.size, 0, none⟩) hl4).trans z0
          have m1 : w5.cell? ⟨W1.heap.size, 1, none⟩ = some (.int .i64 0) := (hb5.cell (p := ⟨W1.heap.size, 1, none⟩) hl4).trans z1
          have m2 : w5.cell? ⟨W1.heap.size, 2, none⟩ = some (.slice none 0 0) := (hb5.cell (p := ⟨W1.heap.size, 2, none⟩) hl4).trans z2
          have k0 : w5.frozen? ⟨W1.heap.size, 0, none⟩ = false := (hb5.frozen (p := ⟨W1.heap.size, 0, none⟩) hl4).trans v0
          have k1 : w5.frozen? ⟨W1.heap.size, 1, none⟩ = false := (hb5.frozen (p := ⟨W1.heap.size, 1, none⟩) hl4).trans v1
          have k2 : w5.frozen? ⟨W1.heap.size, 2, none⟩ = false := (hb5.frozen (p := ⟨W1.heap.size, 2, none⟩) hl4).trans v2
          have HCR5 := Lib.hid (HCR4.out.below hb5)
          have HCR6 := Lib.hid (HCR5.out.set (k := 1) (v := .int .i64 r2) hneR)
          have HB15 := Lib.hid (HB14.out.trans (hb5.mono (by have := HB14.out.size; omega)))
          have HB16 := Lib.hid (HB15.out.setCell (p := ⟨W1.heap.size, 1, none⟩) (Nat.le_refl _) (.int .i64 r2))
          have HGot : Hid (Got b q r1.toNat r2.toNat) := Lib.hid ⟨by omega, Or.inl HEq.out, fun V hV e => by have := HI1.out.2 V hV e; omega, fun V hV e => by have := HI2.out.2 V hV e; omega⟩
          have hr1 := HI1.out.1
          have hr2 := HI2.out.1
          unfold In64 at hr1 hr2
          obtain ⟨d, hd0⟩ : ∃ d, dat0 (q - 6) = d := ⟨_, rfl⟩
          have hdd := dat0_prog q (by omega)
          rw [← HTq.out, hd0] at hdd
          obtain ⟨mm, hmm⟩ : ∃ mm : Nat, (t + 2880) / 2880 = mm := ⟨_, rfl⟩
          have at1 : ((t : Int) + 2880) / 2880 = (mm : Int) := by omega
          have at2 : (mm : Int) * 2880 = (d : Int) := by omega
          have hdb : d ≤ 410000 := by omega
          have HD := Lib.hid hd0
          have hsl := fun W => slice6 W bR oR q capp (by omega)
          have HCd6 := Lib.hid (fun W (h : CRow W (some ⟨bR, oR, none⟩) (crdsAt b q)) => h.drop6 hRl (by omega) hcapp)
          obtain ⟨a6, ha6⟩ : ∃ a6 : Addr, (if capp = 6 then ⟨bR, oR, none⟩ else ⟨bR, oR + 12, none⟩) = a6 := ⟨_, rfl⟩
          obtain ⟨c6, hc6⟩ : ∃ c6, capp - 6 = c6 := ⟨_, rfl⟩
          obtain ⟨q6, hq6⟩ : ∃ q6, q - 6 = q6 := ⟨_, rfl⟩
          have HBk6 : Hid (w.heap.size ≤ a6.block) := Lib.hid (by rw [← ha6]; split <;> exact hgeR)
          rw [ha6, hc6, hq6] at hsl
          rw [ha6] at HCd6
          have HQ6 := Lib.hid hq6
          have HC6 : Hid (q6 ≤ c6) := Lib.hid (by omega)
          clear ha6 hc6 hq6
          clear hb5 HB13 HCR3 x0 x1 x2 y0 y1 y2 z0 z1 z2 v0 v1 v2 HB14 HCR4 HA4 HI1 HI2 HEq hd0 hdd hmm d4 HB15
          by_cases g1 : r1 < 1
          · have b1 : decide (r1 < 1) = true := decide_eq_true g1
            have HNg := Lib.hid (HGot.out.noW (Or.inl (by omega)))
            have HNo : Hid (¬ IsFile b) := Lib.hid (HNg.out)
            have HBj := Lib.hid (HB16.out)
            have HBw := Lib.hid (below_step HB01.out HBj.out)
            obtain ⟨⟨c0, c1, c2⟩, f0, f1, f2⟩ := HRz.out _ HBj.out
            have e7 : World.cell? (w5.setCell ⟨W1.heap.size, 1, none⟩ (.int .i64 r2)) ⟨3, 0, none⟩ = some (errV ad 7) := (HE.out _ HBw.out) 7 (by simp)
            obtain ⟨hne, hne2⟩ := HGe.out
            have HBs := Lib.hid (((HBw.out.drew.setCell (p := ⟨w.heap.size, 0, none⟩) (Nat.le_refl _) (.int .i64 0)).setCell (p := ⟨w.heap.size, 1, none⟩) (Nat.le_refl _) (.int .i64 0)).setCell (p := ⟨w.heap.size, 2, none⟩) (Nat.le_refl _) (.slice none 0 0))
            have HPo := Lib.hid (fun W' (hb : Below w.heap.size w W') => RdPost.no (ad := ad) HNo.out hb)
            generalize errV ad 7 = ev7 at *
            clear HNo HE HT HN HS HR0 HBj HBw HCd6 HQ6 HC6 HD HB16 HCR6 HCR5 HTq HBr HBin HP0 HP1 HP2 HPf HGot hneR
            go_wp2
            go_step3
            refine ⟨rfl, ?_⟩
            generalize (w5.setCell ⟨W1.heap.size, 1, none⟩ (.int .i64 r2)) = W6 at *
            go_wp2
            go_region_held3 (fun w' => w'.cell? ⟨3, 0, none⟩ = some ev7) (go_keep) (fail)
            all_goals
              go_wp2
              rw [Exit.noGoto_ret]
              refine bodyPost_ret (v := .tuple #[.agg #[.int .i64 0, .int .i64 0, .slice none 0 0], .slice none 0 0, ev7]) ?_ rfl ?_
              · simp [results, Tryz.results10, go_sem, c0, c1, c2]
              · exact HPo.out _ HBs.out
          have b1 : decide (r1 < 1) = false := decide_eq_false g1
          by_cases g2 : r2 < 1
          · have b2 : decide (r2 < 1) = true := decide_eq_true g2
            have HNg := Lib.hid (HGot.out.noW (Or.inr (Or.inl (by omega))))
            have HNo : Hid (¬ IsFile b) := Lib.hid (HNg.out)
            have HBj := Lib.hid (HB16.out)
            have HBw := Lib.hid (below_step HB01.out HBj.out)
            obtain ⟨⟨c0, c1, c2⟩, f0, f1, f2⟩ := HRz.out _ HBj.out
            have e7 : World.cell? (w5.setCell ⟨W1.heap.size, 1, none⟩ (.int .i64 r2)) ⟨3, 0, none⟩ = some (errV ad 7) := (HE.out _ HBw.out) 7 (by simp)
            obtain ⟨hne, hne2⟩ := HGe.out
            have HBs := Lib.hid (((HBw.out.drew.setCell (p := ⟨w.heap.size, 0, none⟩) (Nat.le_refl _) (.int .i64 0)).setCell (p := ⟨w.heap.size, 1, none⟩) (Nat.le_refl _) (.int .i64 0)).setCell (p := ⟨w.heap.size, 2, none⟩) (Nat.le_refl _) (.slice none 0 0))
            have HPo := Lib.hid (fun W' (hb : Below w.heap.size w W') => RdPost.no (ad := ad) HNo.out hb)
            generalize errV ad 7 = ev7 at *
            clear HNo HE HT HN HS HR0 HBj HBw HCd6 HQ6 HC6 HD HB16 HCR6 HCR5 HTq HBr HBin HP0 HP1 HP2 HPf HGot hneR
            go_wp2
            go_step3
            refine ⟨rfl, ?_⟩
            generalize (w5.setCell ⟨W1.heap.size, 1, none⟩ (.int .i64 r2)) = W6 at *
            go_wp2
            go_region_held3 (fun w' => w'.cell? ⟨3, 0, none⟩ = some ev7) (go_keep) (fail)
            all_goals
              go_wp2
              rw [Exit.noGoto_ret]
              refine bodyPost_ret (v := .tuple #[.agg #[.int .i64 0, .int .i64 0, .slice none 0 0], .slice none 0 0, ev7]) ?_ rfl ?_
              · simp [results, Tryz.results10, go_sem, c0, c1, c2]
              · exact HPo.out _ HBs.out
          have b2 : decide (r2 < 1) = false := decide_eq_false g2
          by_cases g3 : 256 < r1
          · have b3 : decide (256 < r1) = true := decide_eq_true g3
            have HNg := Lib.hid (HGot.out.noW (Or.inr (Or.inr (Or.inl (by omega)))))
            have HNo : Hid (¬ IsFile b) := Lib.hid (HNg.out)
            have HBj := Lib.hid (HB16.out)
            have HBw := Lib.hid (below_step HB01.out HBj.out)
            obtain ⟨⟨c0, c1, c2⟩, f0, f1, f2⟩ := HRz.out _ HBj.out
            have e7 : World.cell? (w5.setCell ⟨W1.heap.size, 1, none⟩ (.int .i64 r2)) ⟨3, 0, none⟩ = some (errV ad 7) := (HE.out _ HBw.out) 7 (by simp)
            obtain ⟨hne, hne2⟩ := HGe.out
            have HBs := Lib.hid (((HBw.out.drew.setCell (p := ⟨w.heap.size, 0, none⟩) (Nat.le_refl _) (.int .i64 0)).setCell (p := ⟨w.heap.size, 1, none⟩) (Nat.le_refl _) (.int .i64 0)).setCell (p := ⟨w.heap.size, 2, none⟩) (Nat.le_refl _) (.slice none 0 0))
            have HPo := Lib.hid (fun W' (hb : Below w.heap.size w W') => RdPost.no (ad := ad) HNo.out hb)
            generalize errV ad 7 = ev7 at *
            clear HNo HE HT HN HS HR0 HBj HBw HCd6 HQ6 HC6 HD HB16 HCR6 HCR5 HTq HBr HBin HP0 HP1 HP2 HPf HGot hneR
            go_wp2
            go_step3
            refine ⟨rfl, ?_⟩
            generalize (w5.setCell ⟨W1.heap.size, 1, none⟩ (.int .i64 r2)) = W6 at *
            go_wp2
            go_region_held3 (fun w' => w'.cell? ⟨3, 0, none⟩ = some ev7) (go_keep) (fail)
            all_goals
              go_wp2
              rw [Exit.noGoto_ret]
              refine bodyPost_ret (v := .tuple #[.agg #[.int .i64 0, .int .i64 0, .slice none 0 0], .slice none 0 0, ev7]) ?_ rfl ?_
              · simp [results, Tryz.results10, go_sem, c0, c1, c2]
              · exact HPo.out _ HBs.out
          have b3 : decide (256 < r1) = false := decide_eq_false g3
          by_cases g4 : 256 < r2
          · have b4 : decide (256 < r2) = true := decide_eq_true g4
            have HNg := Lib.hid (HGot.out.noW (Or.inr (Or.inr (Or.inr (Or.inl (by omega))))))
            have HNo : Hid (¬ IsFile b) := Lib.hid (HNg.out)
            have HBj := Lib.hid (HB16.out)
            have HBw := Lib.hid (below_step HB01.out HBj.out)
            obtain ⟨⟨c0, c1, c2⟩, f0, f1, f2⟩ := HRz.out _ HBj.out
            have e7 : World.cell? (w5.setCell ⟨W1.heap.size, 1, none⟩ (.int .i64 r2)) ⟨3, 0, none⟩ = some (errV ad 7) := (HE.out _ HBw.out) 7 (by simp)
            obtain ⟨hne, hne2⟩ := HGe.out
            have HBs := Lib.hid (((HBw.out.drew.setCell (p := ⟨w.heap.size, 0, none⟩) (Nat.le_refl _) (.int .i64 0)).setCell (p := ⟨w.heap.size, 1, none⟩) (Nat.le_refl _) (.int .i64 0)).setCell (p := ⟨w.heap.size, 2, none⟩) (Nat.le_refl _) (.slice none 0 0))
            have HPo := Lib.hid (fun W' (hb : Below w.heap.size w W') => RdPost.no (ad := ad) HNo.out hb)
            generalize errV ad 7 = ev7 at *
            clear HNo HE HT HN HS HR0 HBj HBw HCd6 HQ6 HC6 HD HB16 HCR6 HCR5 HTq HBr HBin HP0 HP1 HP2 HPf HGot hneR
            go_wp2
            go_step3
            refine ⟨rfl, ?_⟩
            generalize (w5.setCell ⟨W1.heap.size, 1, none⟩ (.int .i64 r2)) = W6 at *
            go_wp2
            go_region_held3 (fun w' => w'.cell? ⟨3, 0, none⟩ = some ev7) (go_keep) (fail)
            all_goals
              go_wp2
              rw [Exit.noGoto_ret]
              refine bodyPost_ret (v := .tuple #[.agg #[.int .i64 0, .int .i64 0, .slice none 0 0], .slice none 0 0, ev7]) ?_ rfl ?_
              · simp [results, Tryz.results10, go_sem, c0, c1, c2]
              · exact HPo.out _ HBs.out
          have b4 : decide (256 < r2) = false := decide_eq_false g4
          obtain ⟨V, rfl⟩ : ∃ V : Nat, r1 = (V : Int) := ⟨r1.toNat, by omega⟩
          obtain ⟨K, rfl⟩ : ∃ K : Nat, r2 = (K : Int) := ⟨r2.toNat, by omega⟩
          have hV1 : 1 ≤ V ∧ V ≤ 256 := by omega
          have hK1 : 1 ≤ K ∧ K ≤ 256 := by omega
          rw [Int.toNat_natCast, Int.toNat_natCast] at HGot
          obtain ⟨A, hA⟩ : ∃ A, K * V = A := ⟨_, rfl⟩
          have hA1 : A ≤ 65536 := by rw [← hA]; exact Nat.le_trans (Nat.mul_le_mul hK1.2 hV1.2) (by decide)
          have hVK : (V : Int) * (K : Int) = (A : Int) := by rw [← hA]; push_cast; exact Int.mul_comm _ _
          have e2 : (2 : Int) * (V : Int) * (K : Int) = 2 * (A : Int) := by rw [Int.mul_assoc, hVK]
          have HA := Lib.hid hA
          clear hA
          by_cases g5 : L < d + 2 * A
          · have b5 : decide ((L : Int) < (d : Int) + 2 * (A : Int)) = true := decide_eq_true (by omega)
            have HNg := Lib.hid (HGot.out.noW (Or.inr (Or.inr (Or.inr (Or.inr (by rw [HL.out, HD.out, HA.out]; omega))))))
            clear hVK
            have HNo : Hid (¬ IsFile b) := Lib.hid (HNg.out)
            have HBj := Lib.hid (HB16.out)
            have HBw := Lib.hid (below_step HB01.out HBj.out)
            obtain ⟨⟨c0, c1, c2⟩, f0, f1, f2⟩ := HRz.out _ HBj.out
            have e7 : World.cell? (w5.setCell ⟨W1.heap.size, 1, none⟩ (.int .i64 K)) ⟨3, 0, none⟩ = some (errV ad 7) := (HE.out _ HBw.out) 7 (by simp)
            obtain ⟨hne, hne2⟩ := HGe.out
            have HBs := Lib.hid (((HBw.out.drew.setCell (p := ⟨w.heap.size, 0, none⟩) (Nat.le_refl _) (.int .i64 0)).setCell (p := ⟨w.heap.size, 1, none⟩) (Nat.le_refl _) (.int .i64 0)).setCell (p := ⟨w.heap.size, 2, none⟩) (Nat.le_refl _) (.slice none 0 0))
            have HPo := Lib.hid (fun W' (hb : Below w.heap.size w W') => RdPost.no (ad := ad) HNo.out hb)
            generalize errV ad 7 = ev7 at *
            clear HNo HE HT HN HS HR0 HBj HBw HCd6 HQ6 HC6 HD HB16 HCR6 HCR5 HTq HBr HBin HP0 HP1 HP2 HPf HGot hneR
            go_wp2
            go_step3
            refine ⟨rfl, ?_⟩
            generalize (w5.setCell ⟨W1.heap.size, 1, none⟩ (.int .i64 K)) = W6 at *
            go_wp2
            go_region_held3 (fun w' => w'.cell? ⟨3, 0, none⟩ = some ev7) (go_keep) (fail)
            all_goals
              go_wp2
              rw [Exit.noGoto_ret]
              refine bodyPost_ret (v := .tuple #[.agg #[.int .i64 0, .int .i64 0, .slice none 0 0], .slice none 0 0, ev7]) ?_ rfl ?_
              · simp [results, Tryz.results10, go_sem, c0, c1, c2]
              · exact HPo.out _ HBs.out
          have b5 : decide ((L : Int) < (d : Int) + 2 * (A : Int)) = false := decide_eq_false (by omega)
          have hdA : d + 2 * A ≤ L := by omega
          have hbp : bb < w.heap.size := by
            have := HBin.out 0
            have hL0 : 0 < b.length := by rw [HL.out]; omega
            exact cell_lt (by
              rcases HS.out w (Below.refl _ _) with hnil | ⟨b', o', e', hb'⟩
              · rw [hnil] at hL0; simp at hL0
              · cases e'; exact hb' 0 _ (List.getElem?_eq_getElem hL0))
          clear g1 g2 g3 g4 g5
          have c60 : (w5.setCell ⟨W1.heap.size, 1, none⟩ (.int .i64 (K : Int))).cell? ⟨W1.heap.size, 0, none⟩ = some (.int .i64 (V : Int)) := (setO (by decide)).trans m0
          have c61 : (w5.setCell ⟨W1.heap.size, 1, none⟩ (.int .i64 (K : Int))).cell? ⟨W1.heap.size, 1, none⟩ = some (.int .i64 (K : Int)) := setS m1
          have c62 : (w5.setCell ⟨W1.heap.size, 1, none⟩ (.int .i64 (K : Int))).cell? ⟨W1.heap.size, 2, none⟩ = some (.slice none 0 0) := (setO (by decide)).trans m2
          have f62 : (w5.setCell ⟨W1.heap.size, 1, none⟩ (.int .i64 (K : Int))).frozen? ⟨W1.heap.size, 2, none⟩ = false := by simpa using k2
          have hl6 := cell_lt c60
          have hs65 : (w5.setCell ⟨W1.heap.size, 1, none⟩ (.int .i64 (K : Int))).heap.size = w5.heap.size := by simp
          have HP6 : Hid (∀ w', Below (w5.setCell ⟨W1.heap.size, 1, none⟩ (.int .i64 (K : Int))).heap.size (w5.setCell ⟨W1.heap.size, 1, none⟩ (.int .i64 (K : Int))) w' → (w'.cell? ⟨W1.heap.size, 0, none⟩ = some (.int .i64 (V : Int)) ∧ w'.cell? ⟨W1.heap.size, 1, none⟩ = some (.int .i64 (K : Int)) ∧ w'.cell? ⟨W1.heap.size, 2, none⟩ = some (.slice none 0 0)) ∧ w'.frozen? ⟨W1.heap.size, 2, none⟩ = false) := Lib.hid (fun w' hb => ⟨⟨(hb.cell (p := ⟨W1.heap.size, 0, none⟩) hl6).trans c60, (hb.cell (p := ⟨W1.heap.size, 1, none⟩) hl6).trans c61, (hb.cell (p := ⟨W1.heap.size, 2, none⟩) hl6).trans c62⟩, (hb.frozen (p := ⟨W1.heap.size, 2, none⟩) hl6).trans f62⟩)
          have hbR6 : bR < w5.heap.size := by
            rcases HCR5.out with h0 | ⟨b', o', e', hr⟩
            · have := congrArg List.length h0
              rw [hRl] at this
              simp at this
              omega
            · cases e'
              exact cell_lt (hr 0 (by rw [hRl]; omega)).1.1
          have hbb6 : bb < w5.heap.size := by
            have := HB16.out.size
            have := HB01.out.size
            omega
          clear c60 c61 c62 f62
          go_wp2_with (refine wpList_make_full _ rfl (.tmp 118) (.tmp 118) 24 rfl (w5.setCell ⟨W1.heap.size, 1, none⟩ (.int .i64 (K : Int))).heap.size 3 j0 (.int .i64 0) 1 Tryz.underlying24 hj hy0 hy1 .i64 .i64 (A : Int) (A : Int) A rfl rfl rfl rfl (by rw [hy2]; omega) (by unfold maxLen; omega) (Nat.le_refl _) ?_; (intro w7 hown hgrow; have hb7 := (Below.refl _ (w5.setCell ⟨W1.heap.size, 1, none⟩ (.int .i64 (K : Int)))).grown hgrow (Nat.le_refl _) (fun j hj => by cases hj); obtain ⟨⟨n0, n1, n2⟩, nf⟩ := HP6.out w7 hb7; have HO0 := Lib.hid (outC_made hown); have HB7 := Lib.hid hb7; have HLT := Lib.hid (hown.lt _ rfl).2; clear hown hgrow hb7 m0 m1 m2 k0 k1 k2 hsl))
          have HB8 := Lib.hid ((HB16.out.trans (HB7.out.mono (by omega))).setCell (p := ⟨W1.heap.size, 2, none⟩) (Nat.le_refl _) (.slice (some ⟨w5.heap.size, 0, none⟩) A A))
          have HCR8 := Lib.hid ((HCR6.out.below HB7.out).set (k := 2) (v := .slice (some ⟨w5.heap.size, 0, none⟩) A A) hneR)
          have hneg : ¬ W1.heap.size = w5.heap.size := by omega
          have HO8 := Lib.hid (OutC.setOther (b := W1.heap.size) (k := 2) (v := .slice (some ⟨w5.heap.size, 0, none⟩) A A) HO0.out (by rw [hs65]; exact hneg))
          rw [hs65] at HO8 HLT
          have c80 : (w7.setCell ⟨W1.heap.size, 2, none⟩ (.slice (some ⟨w5.heap.size, 0, none⟩) A A)).cell? ⟨W1.heap.size, 0, none⟩ = some (.int .i64 (V : Int)) := (setO (by decide)).trans n0
          have c81 : (w7.setCell ⟨W1.heap.size, 2, none⟩ (.slice (some ⟨w5.heap.size, 0, none⟩) A A)).cell? ⟨W1.heap.size, 1, none⟩ = some (.int .i64 (K : Int)) := (setO (by decide)).trans n1
          have c82 : (w7.setCell ⟨W1.heap.size, 2, none⟩ (.slice (some ⟨w5.heap.size, 0, none⟩) A A)).cell? ⟨W1.heap.size, 2, none⟩ = some (.slice (some ⟨w5.heap.size, 0, none⟩) A A) := setS n2
          have hl8 : w5.heap.size < (w7.setCell ⟨W1.heap.size, 2, none⟩ (.slice (some ⟨w5.heap.size, 0, none⟩) A A)).heap.size := by simpa using HLT.out
          have hW15 : W1.heap.size < w5.heap.size := by omega
          clear HO0 HB7 HLT HB16 HCR6 HCR5 HP6 nf n0 n1 n2 hs65 hl6 hbR hneR
          generalize w7.setCell ⟨W1.heap.size, 2, none⟩ (.slice (some ⟨w5.heap.size, 0, none⟩) A A) = W8 at *
          generalize w5.heap.size = g at *
          have HP8 : Hid (∀ W', Below g W8 W' → W'.cell? ⟨W1.heap.size, 0, none⟩ = some (.int .i64 (V : Int)) ∧ W'.cell? ⟨W1.heap.size, 1, none⟩ = some (.int .i64 (K : Int)) ∧ W'.cell? ⟨W1.heap.size, 2, none⟩ = some (.slice (some ⟨g, 0, none⟩) A A)) := Lib.hid (fun W' hb => ⟨(hb.cell (p := ⟨W1.heap.size, 0, none⟩) hW15).trans c80, (hb.cell (p := ⟨W1.heap.size, 1, none⟩) hW15).trans c81, (hb.cell (p := ⟨W1.heap.size, 2, none⟩) hW15).trans c82⟩)
          have HBi8 : Hid (BIn W8 bb ob b) := Lib.hid (by
            rcases HS.out W8 (below_step HB01.out HB8.out) with hnil | ⟨b', o', e', hb'⟩
            · exfalso
              have := HL.out
              rw [hnil] at this
              simp at this
              omega
            · cases e'; exact hb')
          have HBn8 : Hid (∀ W', Below g W8 W' → ∀ i x, b[i]? = some x → W'.cell? ⟨bb, ob + i, none⟩ = some (.int .u8 (x.toNat : Int))) := Lib.hid (fun W' hb i x hx => (hb.cell (p := ⟨bb, ob + i, none⟩) hbb6).trans (HBi8.out i x hx))
          clear c80 c81 c82 HBi8 HBin HP0 HP1 HP2 HPf HR0
          have HF0 : Hid (FillO b d V K 0 (fun _ => 0)) := Lib.hid (FillO.zero b d V K)
          go_loopw [9, 12] (fun v y wr => ∃ (k c : Nat) (M : Nat → Nat), k ≤ K ∧ y = .int .i64 ((K : Int) - 1 - (k : Int)) ∧ v = .int .i64 c ∧ Hid (c = d + 2 * (k * V)) ∧ Hid (FillO b d V K k M) ∧ Hid (OutC wr g A M) ∧ Hid (Below g W8 wr)) (fun _ y _ => (intOf y + 1).toNat)
          case atStart => exact ⟨0, d, fun _ => 0, Nat.zero_le _, by simp, rfl, Lib.hid (by omega), HF0, HO8, Lib.hid (Below.refl _ _)⟩
          case round =>
            clear HO8 HF0
            obtain ⟨k, c, M, hk, rfl, rfl, HC, HF, HO, HB⟩ := hrel
            by_cases hkt : k < K
            · have dy : decide ((0 : Int) ≤ (K : Int) - 1 - (k : Int)) = true := by simp; omega
              obtain ⟨p0, p1, p2⟩ := HP8.out wr HB.out
              obtain ⟨Y, hY⟩ : ∃ Y : Nat, K - 1 - k = Y := ⟨_, rfl⟩
              have hYi : (K : Int) - 1 - (k : Int) = (Y : Int) := by omega
              have HFi := Lib.hid (HF.out.inner hY hkt)
              have HY := Lib.hid hY
              have HJA : Hid (Y * V + V ≤ A) := Lib.hid (by
                have := Nat.mul_le_mul_right V (show Y + 1 ≤ K by omega)
                rw [Nat.add_mul, Nat.one_mul, HA.out] at this
                exact this)
              have HcA : Hid (c + 2 * V ≤ d + 2 * A) := Lib.hid (by
                have := Nat.mul_le_mul_right V (show k + 1 ≤ K by omega)
                rw [Nat.add_mul, Nat.one_mul, HA.out] at this
                have := HC.out
                omega)
              have hYV : (Y : Int) * (V : Int) = ((Y * V : Nat) : Int) := by push_cast; rfl
              have HYe : Hid (K - 1 - Y = k) := Lib.hid (by omega)
              have HFs := Lib.hid (fun x M' (h : FillI b d V K Y x M') (hx : x < V) => h.step hx)
              rw [HYe.out] at HFs
              have hJV := HJA.out
              have hcc := HcA.out
              generalize hJ : Y * V = J at *
              have HJ := Lib.hid hJ
              clear hY hJ
              go_wp2
              clear p0 p1 p2 hYi dy
              go_loopw [9, 130] (fun v i wr => ∃ (x c' : Nat) (M : Nat → Nat), x ≤ V ∧ i = .int .i64 x ∧ v = .int .i64 c' ∧ Hid (c' = c + 2 * x) ∧ Hid (FillI b d V K Y x M) ∧ Hid (OutC wr g A M) ∧ Hid (Below g W8 wr)) (fun _ i _ => V - (intOf i).toNat)
              case atStart => exact ⟨0, c, M, Nat.zero_le _, rfl, rfl, Lib.hid (by omega), HFi, HO, HB⟩
              case round =>
                clear HFi HF HO HB
                obtain ⟨x, c', M, hx, rfl, rfl, HC', HF, HO, HB⟩ := hrel
                by_cases hxt : x < V
                · obtain ⟨p0, p1, p2⟩ := HP8.out wr HB.out
                  have hcx : c' + 1 < L := by have := HC'.out; omega
                  have h0 : b[c']? = some (b[c']'(by rw [HL.out]; omega)) := List.getElem?_eq_getElem _
                  have h1 : b[c' + 1]? = some (b[c' + 1]'(by rw [HL.out]; omega)) := List.getElem?_eq_getElem _
                  generalize (b[c']'(by rw [HL.out]; omega)) = y0 at *
                  generalize (b[c' + 1]'(by rw [HL.out]; omega)) = y1 at *
                  have q0 := HBn8.out wr HB.out c' y0 h0
                  have q1 := HBn8.out wr HB.out (c' + 1) y1 h1
                  have HVal : Hid ((pxU b (d + 2 * (k * V + x)) : Nat) = (y0.toNat * 256 + y1.toNat + 32768) % 65536) := Lib.hid (by
                    have e : d + 2 * (k * V + x) = c' := by have := HC'.out; have := HC.out; omega
                    rw [e]
                    unfold pxU pxN
                    rw [List.getD_eq_getElem?_getD, List.getD_eq_getElem?_getD, h0, h1]
                    rfl)
                  have HQ0 := Lib.hid (fun W' (hb : Below g W8 W') => HBn8.out W' hb c' y0 h0)
                  have HQ1 := Lib.hid (fun W' (hb : Below g W8 W') => HBn8.out W' hb (c' + 1) y1 h1)
                  have t0 := y0.toNat_lt
                  have t1 := y1.toNat_lt
                  generalize y0.toNat = n0 at *
                  generalize y1.toNat = n1 at *
                  clear h0 h1
                  obtain ⟨jx, hjx⟩ : ∃ jx, J + x = jx := ⟨_, rfl⟩
                  have hjA : jx < A := by omega
                  have hji : (J : Int) + (x : Int) = (jx : Int) := by omega
                  have HJx := Lib.hid hjx
                  clear hjx
                  have eJ : ((K : Int) - 1 - (k : Int)) * (V : Int) = (J : Int) := by
                    rw [show (K : Int) - 1 - (k : Int) = (Y : Int) by have := HY.out; omega, hYV]
                  have ew1 : IntKind.i64.wrap (J : Int) = (J : Int) := IntWalk.i64_in _ (by have := HJA.out; omega)
                  have ew2 : IntKind.i64.wrap (jx : Int) = (jx : Int) := IntWalk.i64_in _ (by omega)
                  have ew3 : IntKind.i64.wrap ((c' : Int) + 1) = (c' : Int) + 1 := IntWalk.i64_in _ (by omega)
                  have r0 : (0 : Int) ≤ (c' : Int) := by omega
                  have r1 : (c' : Int) < (L : Int) := by omega
                  have r2 : (0 : Int) ≤ (c' : Int) + 1 := by omega
                  have r3 : (c' : Int) + 1 < (L : Int) := by omega
                  have r4 : (0 : Int) ≤ (jx : Int) := by omega
                  have r5 : (jx : Int) < (A : Int) := by omega
                  have HBd := Lib.hid (HB.out.drew)
                  have HSS : Hid (∀ W', Below g W8 W' → W'.cell? ⟨W1.heap.size, 0, none⟩ = some (.int .i64 (V : Int)) ∧ W'.cell? ⟨W1.heap.size, 2, none⟩ = some (.slice (some ⟨g, 0, none⟩) A A) ∧ W'.cell? ⟨bb, ob + c', none⟩ = some (.int .u8 (n0 : Int)) ∧ W'.cell? ⟨bb, ob + (c' + 1), none⟩ = some (.int .u8 (n1 : Int))) := Lib.hid (fun W' hb => ⟨(HP8.out W' hb).1, (HP8.out W' hb).2.2, HQ0.out W' hb, HQ1.out W' hb⟩)
                  have HS0 := Lib.hid (HSS.out wr.drew HBd.out)
                  have HS1 := Lib.hid (fun v => HSS.out (wr.drew.setCell ⟨g, jx, none⟩ v) (HBd.out.setCell (p := ⟨g, jx, none⟩) (Nat.le_refl _) v))
                  obtain ⟨oc, of⟩ := HO.out jx hjA
                  clear p1
                  go_wp2
                  go_region_held3 (fun w' => w'.cell? ⟨W1.heap.size, 0, none⟩ = some (.int .i64 (V : Int)) ∧ w'.cell? ⟨W1.heap.size, 2, none⟩ = some (.slice (some ⟨g, 0, none⟩) A A) ∧ w'.cell? ⟨bb, ob + c', none⟩ = some (.int .u8 (n0 : Int)) ∧ w'.cell? ⟨bb, ob + (c' + 1), none⟩ = some (.int .u8 (n1 : Int)))
                    (first | (exact HS0.out) | (exact HS1.out _) | go_keep) (fail)
                  all_goals
                    rw [pixel_val t0 t1]
                    have HF2 : Hid (FillI b d V K Y (x + 1) (putF M jx ((n0 * 256 + n1 + 32768) % 65536))) := Lib.hid (by
                      rw [← HVal.out, ← HJx.out]
                      exact HFs.out x M HF.out hxt)
                    have HO2 := Lib.hid ((HO.out.put hjA ((n0 * 256 + n1 + 32768) % 65536)).drw)
                    have HB2' := Lib.hid ((HB.out.setCell (p := ⟨g, jx, none⟩) (Nat.le_refl _) (.int .i64 (((n0 * 256 + n1 + 32768) % 65536 : Nat) : Int))).drew)
                    generalize (n0 * 256 + n1 + 32768) % 65536 = pv at *
                    generalize (wr.setCell ⟨g, jx, none⟩ (.int .i64 (pv : Int))).drew = wd at *
                    have HC2 : Hid (c' + 2 = c + 2 * (x + 1)) := Lib.hid (by have := HC'.out; omega)
                    clear eJ ew1 ew2 ew3 r0 r1 r2 r3 r4 r5 HBd HSS HS0 HS1 oc of p0 p2 q0 q1 HVal hji HF HO HB HQ0 HQ1 HC'
                    go_wp2
                    go_roundw
                    case rel => exact ⟨x + 1, c' + 2, putF M jx pv, by omega, by go_num, by go_num, HC2, HF2, HO2, HB2'⟩
                    case measure => simp [intOf]; omega
                · obtain rfl : x = V := by omega
                  have HFo := Lib.hid (HF.out.outer HY.out hkt)
                  have HC3 : Hid (c' = d + 2 * ((k + 1) * x)) := Lib.hid (by
                    have := HC'.out
                    have := HC.out
                    rw [Nat.add_mul, Nat.one_mul]
                    omega)
                  go_wp2
                  go_roundw
                  case rel => exact ⟨k + 1, c', M, by omega, by go_num, rfl, HC3, HFo, HO, HB⟩
                  case measure => simp [intOf]; omega
            · obtain rfl : k = K := by omega
              have dy : decide ((0 : Int) ≤ (k : Int) - 1 - (k : Int)) = false := by simp; omega
              obtain ⟨p0, p1, p2⟩ := HP8.out wr HB.out
              have HI := Lib.hid (HO.out.irow (fun j hj => HF.out.all j (by rw [HA.out]; exact hj)))
              have HpG : Hid (picG V k A (pxF b d V k)) := Lib.hid ⟨by omega, by omega, by omega, by omega, hVK.symm, fun j _ => pxV_in _ _⟩
              have HCw := Lib.hid (HCd6.out wr (HCR8.out.belowG HB.out hbR6))
              have hlen6 : ((crdsAt b q).drop 6).length = q6 := by rw [List.length_drop, hRl]; exact HQ6.out
              have HBz1 := Lib.hid (HB8.out.trans (HB.out.mono (by omega)))
              have HBwr := Lib.hid (below_step HB01.out HBz1.out)
              have hgl := (HO.out 0 (by have := HA.out; have := Nat.mul_le_mul hK1.1 hV1.1; omega)).1
              have hglt := cell_lt hgl
              have HNc := Lib.hid (fun h => HGot.out.noC (b := b) h)
              have HNb := Lib.hid (fun h => HGot.out.noB (b := b) h)
              rw [HD.out] at HNb
              clear hgl HF HO HC
              by_cases hok : crdOk ((crdsAt b q).drop 6)
              · have HWr := Lib.hid (write_ok ad V k (pxF b d V k) (some ⟨g, 0, none⟩) A A ((crdsAt b q).drop 6) (some a6) c6 wr (fun i hi => (HE.out wr HBwr.out) i (by simp at hi ⊢; omega)) (HT.out wr HBwr.out) HI.out HpG.out HCw.out (by rw [hlen6]; exact HC6.out) (Nat.le_refl _) hok)
                rw [hlen6] at HWr
                have HOk := Lib.hid hok
                clear hok
                go_wp2_with fail
                refine HWr.out.mono ?_; rintro e w9 ⟨v, rfl, hG9⟩
                obtain ⟨aw, capw, rfl⟩ := hG9.form
                have HB9 := Lib.hid (HBz1.out.trans (hG9.2.1.mono (by have := HBz1.out.size; omega)))
                have HB9w := Lib.hid (below_step HB01.out HB9.out)
                have HEq9 := Lib.hid (equal_any (fileL V k (pxF b d V k) ((crdsAt b q).drop 6)) b aw (some ⟨bb, ob, none⟩) capw cap w9 hG9.bsl (HS.out w9 HB9w.out))
                rw [HL.out] at HEq9
                have HI9 := Lib.hid (HI.out.below hG9.2.1)
                have HC9 := Lib.hid ((HCR8.out.belowG HB.out hbR6).below hG9.2.1)
                obtain ⟨x0, x1, x2⟩ := HP8.out w9 (HB.out.trans (hG9.2.1.mono (by omega)))
                by_cases heq : fileL V k (pxF b d V k) ((crdsAt b q).drop 6) = b
                · have hbe : (fileL V k (pxF b d V k) ((crdsAt b q).drop 6) == b) = true := by rw [heq, beq_self_eq_true]
                  rw [hbe] at HEq9
                  obtain ⟨⟨c0, c1, c2⟩, f0, f1, f2⟩ := HRz.out w9 HB9.out
                  have HEqf := Lib.hid heq
                  clear heq hbe hG9 HWr
                  generalize (fileL V k (pxF b d V k) ((crdsAt b q).drop 6)).length = lf at *
                  go_wp2_with fail
                  refine HEq9.out.mono ?_; rintro e w10 ⟨rfl, rfl⟩
                  clear HEq9
                  have hgw : ¬ g = w.heap.size := by omega
                  have HIf := Lib.hid (((HI9.out.setG (k := 0) (v := .int .i64 (V : Int)) hgw).setG (k := 1) (v := .int .i64 (k : Int)) hgw).setG (k := 2) (v := .slice (some ⟨g, 0, none⟩) A A) hgw)
                  have HCf := Lib.hid (HCd6.out _ (((HC9.out.set (k := 0) (v := .int .i64 (V : Int)) hneR2).set (k := 1) (v := .int .i64 (k : Int)) hneR2).set (k := 2) (v := .slice (some ⟨g, 0, none⟩) A A) hneR2))
                  have HBf := Lib.hid (((HB9w.out.setCell (p := ⟨w.heap.size, 0, none⟩) (Nat.le_refl _) (.int .i64 (V : Int))).setCell (p := ⟨w.heap.size, 1, none⟩) (Nat.le_refl _) (.int .i64 (k : Int))).setCell (p := ⟨w.heap.size, 2, none⟩) (Nat.le_refl _) (.slice (some ⟨g, 0, none⟩) A A))
                  have HPo : Hid (∀ W', IRow W' (some ⟨g, 0, none⟩) A (pxF b d V k) → CRow W' (some a6) ((crdsAt b q).drop 6) → Below w.heap.size w W' → RdPost b w ad (.returned (.tuple #[.agg #[.int .i64 (V : Int), .int .i64 (k : Int), .slice (some ⟨g, 0, none⟩) A A], .slice (some a6) q6 c6, .nilIface])) W') := Lib.hid (fun W' h1 h2 h3 =>
                    ⟨Or.inl ⟨V, k, pxF b d V k, (crdsAt b q).drop 6, g, A, A, a6, c6, ⟨hV1.1, hV1.2, hK1.1, hK1.2, fun _ _ => pxV_in _ _, HOk.out⟩, HEqf.out.symm, by rw [hlen6], by rw [← HA.out, Nat.mul_comm], ⟨h1, by omega⟩, h2, HBk6.out⟩, h3⟩)
                  clear HI9 HC9 HCd6 HB9w HCw HI HE HT HN HS HRz
                  go_wp2
                  refine bodyPost_ret (v := .tuple #[.agg #[.int .i64 (V : Int), .int .i64 (k : Int), .slice (some ⟨g, 0, none⟩) A A], .slice (some a6) q6 c6, .nilIface]) ?_ rfl ?_
                  · simp [results, Tryz.results10, go_sem, c0, c1, c2]
                  · exact HPo.out _ HIf.out HCf.out HBf.out
                · have hbe : (fileL V k (pxF b d V k) ((crdsAt b q).drop 6) == b) = false := beq_eq_false_iff_ne.2 heq
                  rw [hbe] at HEq9
                  have HNg := Lib.hid (HNb.out heq)
                  clear heq hbe hG9 HWr
                  generalize (fileL V k (pxF b d V k) ((crdsAt b q).drop 6)).length = lf at *
                  go_wp2_with fail
                  refine HEq9.out.mono ?_; rintro e w10 ⟨rfl, rfl⟩
                  clear HEq9
                  have HN9 : Hid (¬ IsFile b) := Lib.hid (HNg.out)
                  obtain ⟨⟨c0, c1, c2⟩, f0, f1, f2⟩ := HRz.out w10 (HB9.out)
                  have HBw := Lib.hid (below_step HB01.out (HB9.out))
                  have e7 : World.cell? w10 ⟨3, 0, none⟩ = some (errV ad 7) := (HE.out _ HBw.out) 7 (by simp)
                  obtain ⟨hne, hne2⟩ := HGe.out
                  have HBs := Lib.hid (((HBw.out.drew.setCell (p := ⟨w.heap.size, 0, none⟩) (Nat.le_refl _) (.int .i64 0)).setCell (p := ⟨w.heap.size, 1, none⟩) (Nat.le_refl _) (.int .i64 0)).setCell (p := ⟨w.heap.size, 2, none⟩) (Nat.le_refl _) (.slice none 0 0))
                  have HPo := Lib.hid (fun W' (hb : Below w.heap.size w W') => RdPost.no (ad := ad) HN9.out hb)
                  generalize errV ad 7 = ev7 at *
                  clear HN9 HE HT HN HS HRz HBw HNg HB9 HB9w HBz1 HBwr HI HpG HCw HNb HNc HGot HCd6 HCR8 HP8 HBn8 HB8 HI9 HC9 x0 x1 x2
                  go_wp2
                  go_step3
                  go_wp2
                  go_region_held3 (fun w' => w'.cell? ⟨3, 0, none⟩ = some ev7) (go_keep) (fail)
                  all_goals
                    go_wp2
                    refine bodyPost_ret (v := .tuple #[.agg #[.int .i64 0, .int .i64 0, .slice none 0 0], .slice none 0 0, ev7]) ?_ rfl ?_
                    · simp [results, Tryz.results10, go_sem, c0, c1, c2]
                    · exact HPo.out _ HBs.out
              · have HWr := Lib.hid (write_bad ad V k (pxF b d V k) (some ⟨g, 0, none⟩) A A ((crdsAt b q).drop 6) (some a6) c6 wr (fun i hi => (HE.out wr HBwr.out) i (by simp at hi ⊢; omega)) (HT.out wr HBwr.out) HI.out HpG.out HCw.out (by rw [hlen6]; exact HC6.out) (by rw [hlen6]; have := HQ6.out; omega) hok)
                rw [hlen6] at HWr
                unfold errV at HWr
                have HNg := Lib.hid (HNc.out hok)
                clear hok
                go_wp2_with fail
                refine HWr.out.mono ?_; rintro e w9 ⟨i, rfl, hb9⟩
                have HB9 := Lib.hid (HBz1.out.trans (hb9.mono (by have := HBz1.out.size; omega)))
                generalize ad i = ai at *
                clear HWr hb9
                have HN9 : Hid (¬ IsFile b) := Lib.hid (HNg.out)
                obtain ⟨⟨c0, c1, c2⟩, f0, f1, f2⟩ := HRz.out w9 (HB9.out)
                have HBw := Lib.hid (below_step HB01.out (HB9.out))
                have e7 : World.cell? w9 ⟨3, 0, none⟩ = some (errV ad 7) := (HE.out _ HBw.out) 7 (by simp)
                obtain ⟨hne, hne2⟩ := HGe.out
                have HBs := Lib.hid (((HBw.out.drew.setCell (p := ⟨w.heap.size, 0, none⟩) (Nat.le_refl _) (.int .i64 0)).setCell (p := ⟨w.heap.size, 1, none⟩) (Nat.le_refl _) (.int .i64 0)).setCell (p := ⟨w.heap.size, 2, none⟩) (Nat.le_refl _) (.slice none 0 0))
                have HPo := Lib.hid (fun W' (hb : Below w.heap.size w W') => RdPost.no (ad := ad) HN9.out hb)
                generalize errV ad 7 = ev7 at *
                clear HN9 HE HT HN HS HRz HBw HNg HB9 HBz1 HBwr HI HpG HCw HNb HNc HGot HCd6 HCR8 HP8 HBn8 HB8
                go_wp2
                go_step3
                go_wp2
                go_region_held3 (fun w' => w'.cell? ⟨3, 0, none⟩ = some ev7) (go_keep) (fail)
                all_goals
                  go_wp2
                  refine bodyPost_ret (v := .tuple #[.agg #[.int .i64 0, .int .i64 0, .slice none 0 0], .slice none 0 0, ev7]) ?_ rfl ?_
                  · simp [results, Tryz.results10, go_sem, c0, c1, c2]
                  · exact HPo.out _ HBs.out
      · have hcase : (s3.toList == [69, 78, 68]) = false ∨ ((s3.toList == [69, 78, 68]) = true ∧ ((x.toNat : Int) == 32) = false) := by
          by_cases h3 : sl b t 3 = [69, 78, 68]
          · refine Or.inr ⟨by rw [HEt.out, h3, beq_self_eq_true], ?_⟩
            rw [beq_eq_false_iff_ne]
            intro e
            exact e4 (hse.2 ⟨h3, UInt8.toNat_inj.1 (show x.toNat = (32 : UInt8).toNat from Int.ofNat.inj e)⟩)
          · exact Or.inl (by rw [HEt.out, beq_eq_false_iff_ne]; exact h3)
        have HNe2 : Hid (∀ p, p < q + 1 → sl b (80 * p) 4 ≠ [69, 78, 68, 32]) := Lib.hid (fun p hp => by
          by_cases e : p = q
          · rw [e, ← HTq.out]; exact e4
          · exact HNe.out p (by omega))
        have H4 := Lib.hid e4
        clear hse HEt e4
        generalize x.toNat = xn at *
        by_cases hr : sl b (t + 8) 2 = [61, 32]
        · have HCd := Lib.hid (card_good (sl b t 80) bb (ob + t) (cap - t) wr HBin.out.sl (sl_len (by rw [HL.out]; omega)) (by omega) (by rw [sl_sl _ (by decide)]; exact hr))
          have HCA : cardL (sl b t 80) = cardAt b q := by rw [HTq.out]; exact cardL_at b q
          rw [HCA] at HCd
          unfold aggC at HCd
          have HEn : Hid ([.string (bs (cardAt b q).1), .string (bs (cardAt b q).2)] = encC [cardAt b q]) := Lib.hid rfl
          have HN1 : Hid (crdsAt b q ++ [cardAt b q] = crdsAt b (q + 1)) := Lib.hid (crdsAt_succ b q).symm
          have hq : q ≤ 5000 := by have := HTq.out; omega
          have hRl : (crdsAt b q).length ≤ 5000 := by rw [crdsAt_len]; exact hq
          generalize crdsAt b q = R at *
          have hRf := HG.out.form
          obtain ⟨aa, capp, rfl⟩ := hRf
          generalize bs (cardAt b q).1 = s1 at *
          generalize bs (cardAt b q).2 = s2 at *
          clear HCA hr HNe H4
          rcases hcase with hE | ⟨hE, hX⟩
          all_goals
            go_wp2_with fail
            refine HCd.out.mono ?_; rintro e w3 ⟨rfl, hb3⟩
            have HG3 := Lib.hid (HG.out.below hb3)
            have HG4 := Lib.hid (fun o => HG3.out.below ((Below.refl w3.heap.size w3).alloc (Nat.le_refl _) o))
            have hos := Lib.hid (fun o o' => World.ownsRow.alloc (World.ownsRow.alloc HG3.out.1 o) o')
            have hsz := HG3.out.2.1.size
            clear HCd HG hb3 hcv hs3 hxc
            go_wp2_with (first
              | (at_builtin; refine wpList_append_own_at _ rfl _ _ 23 rfl W2.heap.size 51 ic _ 2 32 Tryz.underlying23 hc1 hc2 hc3 hc4 rfl (by decide) (.slice aa R.length capp) R.length (encC R) rfl (hos.out _ _) ⟨w3.heap.size + 1, 0, none⟩ 1 1 [.string s1, .string s2] rfl rfl (fun j u hu => by
                  have := newsB (w3.alloc (.cells #[.string s1, .string s2] 51)) [.string s1, .string s2] 51 j u hu
                  simpa using this) (by rw [HEn.out]; exact encC_cells _) ?c3 ?c4 ?c5 ?_)
              | fail)
            case c3 => unfold maxLen; omega
            case c4 => omega
            case c5 => simp; omega
            intro v' w4 hown hgrow _ _
            rw [HEn.out] at hown
            have R4 := (HG4.out (.cells #[.string s1, .string s2] 51)).step (k := 1) (M := [cardAt b q]) rfl hown hgrow
            rw [HN1.out] at R4
            have HR4 := Lib.hid R4
            have HTq2 : Hid (t + 80 = 80 * (q + 1)) := Lib.hid (by have := HTq.out; omega)
            clear hown hgrow R4 HG3 HG4 hos HTq
            go_wp2
            go_roundw
            case rel => exact ⟨q + 1, t + 80, by go_num, by omega, HTq2, HNe2, HR4⟩
            case measure => simp [intOf]; omega
        · have HCd := Lib.hid (card_bad (sl b t 80) bb (ob + t) (cap - t) wr HBin.out.sl (sl_len (by rw [HL.out]; omega)) (by omega) (by rw [sl_sl _ (by decide)]; exact hr))
          unfold aggC at HCd
          have HNr := Lib.hid (noFile_row (b := b) (q := q) (by rw [← HTq.out]; exact H4.out) (by rw [← HTq.out]; exact hr) HNe.out)
          have hbs0 : (bs ([] : List UInt8)) = ⟨#[]⟩ := rfl
          simp only [hbs0] at HCd
          clear hr HNe HNe2 H4
          rcases hcase with hE | ⟨hE, hX⟩
          all_goals
            go_wp2_with fail
            refine HCd.out.mono ?_; rintro e w3 ⟨rfl, hb3⟩
            have HBj0 := Lib.hid ((below_step HG.out.2.1 hb3).alloc (below_step HG.out.2.1 hb3).size (.cells #[.string ⟨#[]⟩, .string ⟨#[]⟩] 51))
            clear HCd hcv hs3 hxc
            have HNo : Hid (¬ IsFile b) := Lib.hid (HNr.out)
            have HBj := Lib.hid (HBj0.out)
            have HBw := Lib.hid (below_step HB2.out HBj.out)
            obtain ⟨⟨c0, c1, c2⟩, f0, f1, f2⟩ := HR0.out _ HBj.out
            have e7 : World.cell? (w3.alloc (.cells #[.string ⟨#[]⟩, .string ⟨#[]⟩] 51)) ⟨3, 0, none⟩ = some (errV ad 7) := (HE.out _ HBw.out) 7 (by simp)
            obtain ⟨hne, hne2⟩ := HGe.out
            have HBs := Lib.hid (((HBw.out.drew.setCell (p := ⟨w.heap.size, 0, none⟩) (Nat.le_refl _) (.int .i64 0)).setCell (p := ⟨w.heap.size, 1, none⟩) (Nat.le_refl _) (.int .i64 0)).setCell (p := ⟨w.heap.size, 2, none⟩) (Nat.le_refl _) (.slice none 0 0))
            have HPo := Lib.hid (fun W' (hb : Below w.heap.size w W') => RdPost.no (ad := ad) HNo.out hb)
            generalize errV ad 7 = ev7 at *
            clear HNo HE HT HN HS HR0 HBj HBw HNr HBj0 HG hb3 HTq HP0 HP1 HP2 HPf HBr HBin
            go_wp2
            go_step3
            refine ⟨rfl, ?_⟩
            go_wp2
            go_region_held3 (fun w' => w'.cell? ⟨3, 0, none⟩ = some ev7) (go_keep) (fail)
            all_goals
              go_wp2
              rw [Exit.noGoto_ret]
              refine bodyPost_ret (v := .tuple #[.agg #[.int .i64 0, .int .i64 0, .slice none 0 0], .slice none 0 0, ev7]) ?_ rfl ?_
              · simp [results, Tryz.results10, go_sem, c0, c1, c2]
              · exact HPo.out _ HBs.out
    · have d1 : decide ((L : Int) < (t : Int) + 80) = true := decide_eq_true (by omega)
      have HNo : Hid (¬ IsFile b) := Lib.hid (noFile_short (q := q) (by rw [HL.out, ← HTq.out]; omega) HNe.out)
      have HBj := Lib.hid (HG.out.2.1)
      have HBw := Lib.hid (below_step HB2.out HBj.out)
      obtain ⟨⟨c0, c1, c2⟩, f0, f1, f2⟩ := HR0.out _ HBj.out
      have e7 : World.cell? wr ⟨3, 0, none⟩ = some (errV ad 7) := (HE.out _ HBw.out) 7 (by simp)
      obtain ⟨hne, hne2⟩ := HGe.out
      have HBs := Lib.hid (((HBw.out.drew.setCell (p := ⟨w.heap.size, 0, none⟩) (Nat.le_refl _) (.int .i64 0)).setCell (p := ⟨w.heap.size, 1, none⟩) (Nat.le_refl _) (.int .i64 0)).setCell (p := ⟨w.heap.size, 2, none⟩) (Nat.le_refl _) (.slice none 0 0))
      have HPo := Lib.hid (fun W' (hb : Below w.heap.size w W') => RdPost.no (ad := ad) HNo.out hb)
      generalize errV ad 7 = ev7 at *
      clear HNo HE HT HN HS HR0 HBj HBw HNe HG HTq HP0 HP1 HP2 HPf
      go_wp2
      go_step3
      refine ⟨rfl, ?_⟩
      go_wp2
      go_region_held3 (fun w' => w'.cell? ⟨3, 0, none⟩ = some ev7) (go_keep) (fail)
      all_goals
        go_wp2
        rw [Exit.noGoto_ret]
        refine bodyPost_ret (v := .tuple #[.agg #[.int .i64 0, .int .i64 0, .slice none 0 0], .slice none 0 0, ev7]) ?_ rfl ?_
        · simp [results, Tryz.results10, go_sem, c0, c1, c2]
        · exact HPo.out _ HBs.out
end Go.Proofs.YtjcmpkkflboaoaaGreatDoor
