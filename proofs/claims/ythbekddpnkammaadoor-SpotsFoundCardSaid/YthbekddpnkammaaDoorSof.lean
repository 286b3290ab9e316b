/- meridianref4.SpotsOf: its walk. -/
import Derived.Test.YthbekddpnkammaaDoorFnd0
import Derived.Test.YthbekddpnkammaaDoorOver
import Derived.Test.YthbekddpnkammaaDoorLabelsOf
import Derived.Deep.CutRange
import Derived.Deep.DeepCutAuto
namespace Go.Proofs.YthbekddpnkammaaDoor
open Go.RowKit

/-- A spot in a block of its own, to be written. -/
def BoxZ (w : World) (g : Nat) (s : Sp) : Prop := OutZ w g 9 s.fld
theorem BoxZ.put' {w : World} {g c : Nat} {s s' : Sp} {v : Int} (h : BoxZ w g s) (hc : c < 9) (e : s.put c v = s') : BoxZ (w.setCell ⟨g, c, none⟩ (.int .i64 v)) g s' := by
  subst e
  refine OutZ.congr (OutZ.put h hc v) (fun j hj => ?_)
  unfold putZ
  rw [fld_put _ _ hc hj]
theorem BoxZ.drew1 {w : World} {g : Nat} {s : Sp} (h : BoxZ w g s) : BoxZ w.drew g s := h
theorem BoxZ.drewN1 {w : World} {g q : Nat} {s : Sp} (h : BoxZ w g s) : BoxZ (w.drewN q) g s := OutZ.drewN1 h
theorem BoxZ.cells {w : World} {g : Nat} {s : Sp} (h : BoxZ w g s) : (w.cell? ⟨g, 0, none⟩ = some (.int .i64 s.L) ∧ w.cell? ⟨g, 1, none⟩ = some (.int .i64 s.T) ∧ w.cell? ⟨g, 2, none⟩ = some (.int .i64 s.R) ∧ w.cell? ⟨g, 3, none⟩ = some (.int .i64 s.Lo) ∧ w.cell? ⟨g, 4, none⟩ = some (.int .i64 s.P) ∧ w.cell? ⟨g, 5, none⟩ = some (.int .i64 s.Li) ∧ w.cell? ⟨g, 6, none⟩ = some (.int .i64 s.X) ∧ w.cell? ⟨g, 7, none⟩ = some (.int .i64 s.Y) ∧ w.cell? ⟨g, 8, none⟩ = some (.int .i64 s.SL)) ∧
    w.frozen? ⟨g, 0, none⟩ = false ∧ w.frozen? ⟨g, 1, none⟩ = false ∧ w.frozen? ⟨g, 2, none⟩ = false ∧ w.frozen? ⟨g, 3, none⟩ = false ∧ w.frozen? ⟨g, 4, none⟩ = false ∧ w.frozen? ⟨g, 5, none⟩ = false ∧ w.frozen? ⟨g, 6, none⟩ = false ∧ w.frozen? ⟨g, 7, none⟩ = false ∧ w.frozen? ⟨g, 8, none⟩ = false :=
  ⟨⟨(h 0 (by decide)).1, (h 1 (by decide)).1, (h 2 (by decide)).1, (h 3 (by decide)).1, (h 4 (by decide)).1, (h 5 (by decide)).1, (h 6 (by decide)).1, (h 7 (by decide)).1, (h 8 (by decide)).1⟩, (h 0 (by decide)).2, (h 1 (by decide)).2, (h 2 (by decide)).2, (h 3 (by decide)).2, (h 4 (by decide)).2, (h 5 (by decide)).2, (h 6 (by decide)).2, (h 7 (by decide)).2, (h 8 (by decide)).2⟩
/-- What of a running spot lies in its block. -/
def holdS (s : Sp) : Sp := ⟨s.L, s.T, s.R, s.Lo, s.P, s.Li, 0, 0, 0⟩
theorem rfS_bd {W H n : Nat} {l Z : Nat → Int} (hW : 1 ≤ W) (hW2 : W ≤ 256) (hH : ∀ i, i < n → i / W ≤ 256) (hl : ∀ i, i < n → -65535 ≤ l i ∧ l i ≤ 65535) (p : Nat) : ∀ i, i ≤ n → Bd i (rfS W H l Z p i)
  | 0, _ => by
    show Bd 0 ⟨W, H, -1, -1, 0, 0, 0, 0, 0⟩
    have h : Bd 0 Sp.nil := ⟨by decide, by decide, by decide, by decide, by decide, by decide, by decide, by decide⟩
    exact ⟨h.p0, h.p1, h.l0, h.l1, h.x0, h.x1, h.y0, h.y1⟩
  | i + 1, hi => by
    have ih := rfS_bd (H := H) (Z := Z) hW hW2 hH hl p i (by omega)
    by_cases c : Z i = (p : Int) + 1
    · rw [rfS_hit _ _ _ _ c]
      have h := ih.add (W := W) (l := l) (by have := Nat.mod_lt i (show 0 < W by omega); omega) (hH i (by omega)) (hl i (by omega)).1 (hl i (by omega)).2
      exact ⟨h.p0, h.p1, h.l0, h.l1, h.x0, h.x1, h.y0, h.y1⟩
    · rw [rfS_miss _ _ _ _ c]
      obtain ⟨p0, p1, l0, l1, x0, x1, y0, y1⟩ := ih
      exact ⟨p0, by omega, by omega, by omega, by omega, by omega, by omega, by omega⟩
theorem rfS_light {W H n : Nat} {l Z : Nat → Int} (p : Nat) (hl : ∀ i, i < n → Z i = (p : Int) + 1 → 1 ≤ l i) : ∀ i, i ≤ n → (rfS W H l Z p i).P ≤ (rfS W H l Z p i).Li
  | 0, _ => Int.le_refl _
  | i + 1, hi => by
    have ih := rfS_light (W := W) (H := H) p hl i (by omega)
    by_cases c : Z i = (p : Int) + 1
    · rw [rfS_hit _ _ _ _ c]
      have h1 := hl i (by omega) c
      show (rfS W H l Z p i).P + 1 ≤ (rfS W H l Z p i).Li + l i
      omega
    · rw [rfS_miss _ _ _ _ c]
      exact ih
theorem refL_len (R : Nat → Sp) (least : Int) : ∀ m, (refL R least m).length ≤ m
  | 0 => Nat.le_refl _
  | p + 1 => by
    have ih := refL_len R least p
    rw [refL]
    split
    · omega
    · rw [placeL_len]; omega
theorem box_new (w : World) (s : Sp) (t : TypeId) : BoxZ (w.alloc (.cells #[.int .i64 s.L, .int .i64 s.T, .int .i64 s.R, .int .i64 s.Lo, .int .i64 s.P, .int .i64 s.Li, .int .i64 s.X, .int .i64 s.Y, .int .i64 s.SL] t)) w.heap.size s := fun j hj => by
  refine ⟨?_, World.frozen?_alloc_new w _ _ j⟩
  rw [World.cell?_alloc_new]
  rcases j with _ | _ | _ | _ | _ | _ | _ | _ | _ | j
  case succ.succ.succ.succ.succ.succ.succ.succ.succ => omega
  all_goals rfl
theorem labels_lit {lit : Nat → Bool} {wide n : Nat} {Z : Nat → Int} (h : Labels lit wide n Z) {k : Nat} (hk : k < n) {p : Nat} (hz : Z k = (p : Int) + 1) : lit k = true := by
  cases hl : lit k with
  | true => rfl
  | false => have := (h k hk).1 hl; omega
set_option maxRecDepth 10000 in
set_option maxHeartbeats 16000000 in
theorem spotsOf_ok (W H T : Nat) (over least : Int) (f : Nat → Int) (b o : Nat) (a : Option Addr) (n cap : Nat) (w : World) (hp : PicAt w b o W H a n cap f) (g : picG W H n f) (hT : 1 ≤ T) (hT2 : T ≤ 256) (ho : 0 ≤ over) (hle : 1 ≤ least) :
    Calls Tryd.prog 16 #[.pointer (some ⟨b, o, none⟩), .int .i64 T, .int .i64 over, .int .i64 least] w fun e w' =>
      ∃ (Z : Nat → Int) (v : Value), e = .returned (.tuple #[v, .int .i64 0]) ∧ Labels (fun k => decide (over < lessF W T f n k)) W n Z ∧
        w'.ownsRow w.heap.size 54 9 v (refL (fun p => rfS W H (lessF W T f n) Z p n) least (rc (fun k => decide (over < lessF W T f n k)) W n n)).length (encL (refL (fun p => rfS W H (lessF W T f n) Z p n) least (rc (fun k => decide (over < lessF W T f n k)) W n n))) ∧ Below w.heap.size w w' := by
  obtain ⟨i0, hi, hz0, hz1, hz2⟩ := info_parts info_bool'
  have hn : n = H * W := by
    have : (n : Int) = ((W * H : Nat) : Int) := by rw [g.2.2.2.2.1]; push_cast; rfl
    rw [Nat.mul_comm]; omega
  have HG := Lib.hid (groundOf_ok W H T f b o a n cap w hp g hT hT2)
  have HO := Lib.hid (fun w' (hb : Below w.heap.size w w') => over_ok W H T f b o a n cap w' (hp.below hb) g hT hT2)
  have HPi := Lib.hid hp
  have d0 : decide (over < 0) = false := by simp; omega
  have d1 : decide (least < 1) = false := by simp; omega
  obtain ⟨n1, n2⟩ := area_bd g
  have hW := g.1
  have hW2 := g.2.1
  have hH2 := g.2.2.2.1
  have HLA := Lib.hid (fun (lit : Nat → Bool) pa ca W' (hL : Bools W' pa n lit) => labelsOf_any lit n W (by omega) (by rw [hn]; exact Nat.mul_mod_left _ _) n2 pa ca W' hL)
  have HCN := Lib.hid g.2.2.2.2.2
  have HDV : Hid (∀ i, i < n → i / W ≤ 256 ∧ i % W ≤ 256) := Lib.hid (fun i hi => by
    have h1 : i / W < H := (Nat.div_lt_iff_lt_mul (by omega)).2 (by rw [← hn]; exact hi)
    have h2 := Nat.mod_lt i (show 0 < W by omega)
    exact ⟨by omega, by omega⟩)
  clear hp g hn
  go_enter Tryd.func16, Tryd.ntmps16
  go_wp2_with fail
  refine HG.out.mono ?_; rintro e w1 ⟨ga, gc, rfl, _, hb1⟩
  have HB1 := Lib.hid hb1
  clear hb1 HG
  have HO1 := Lib.hid (HO.out w1 HB1.out)
  clear HO
  go_wp2_with fail
  refine HO1.out.mono ?_; rintro e w2 ⟨gl, lc, rfl, hl, hb2⟩
  have HB2 := Lib.hid (below_step HB1.out hb2)
  have HLS := Lib.hid hl
  clear hb2 HO1 hl HB1
  go_wp2_with (refine wpList_make_full _ rfl (.tmp 44) (.tmp 44) 45 rfl w2.heap.size 4 i0 (.bool false) 1 Tryd.underlying45 hi hz0 hz1 .i64 .i64 (n : Int) (n : Int) n rfl rfl rfl rfl (by rw [hz2]; omega) (by unfold maxLen; omega) (Nat.le_refl _) ?_; (intro w3 hown hgrow; have hb3 : Below w2.heap.size w2 w3 := (Below.refl _ _).grown hgrow (Nat.le_refl _) (fun j hj => by cases hj); have HO0 := Lib.hid (outB_made hown); have HB3 := Lib.hid hb3; have HLT := Lib.hid (hown.lt _ rfl).2; clear hown hgrow hb3))
  go_loopw [14] (fun i wr => ∃ k : Nat, k ≤ n ∧ i = .int .i64 k ∧ Hid (OutB wr w2.heap.size n (partB (fun k => decide (over < lessF W T f n k)) k)) ∧ Hid (Below w2.heap.size w2 wr) ∧ Hid (w2.heap.size < wr.heap.size)) (fun i _ => n - (intOf i).toNat)
  case atStart => exact ⟨0, Nat.zero_le _, rfl, Lib.hid (HO0.out.congr (fun j _ => (if_neg (Nat.not_lt_zero _)).symm)), HB3, HLT⟩
  case round =>
    clear HO0 HB3 HLT
    obtain ⟨k, hk, rfl, hO, hB, hL⟩ := hrel
    by_cases hlt : k < n
    · obtain ⟨ba, oa, e0, hba, ck⟩ := HLS.out.at hlt
      cases e0
      have ckr : wr.cell? ⟨ba, oa + k, none⟩ = some (.int .i64 (lessF W T f n k)) := by rw [hB.out.cell (p := ⟨ba, oa + k, none⟩) hba]; exact ck
      obtain ⟨co, fo⟩ := hO.out k hlt
      have HP := Lib.hid (hO.out.part hlt)
      generalize partB (fun k => decide (over < lessF W T f n k)) k = PF at *
      generalize lessF W T f n k = x at *
      clear ck
      go_wp2
      go_roundw
      case rel => exact ⟨k + 1, by omega, by go_num, Lib.hid HP.out, Lib.hid (hB.out.setCell (p := ⟨w2.heap.size, k, none⟩) (Nat.le_refl _) _), Lib.hid (by have := hL.out; simpa using this)⟩
      case measure => simp [intOf]; omega
    · have e : k = n := by omega
      have HF : Hid (Bools wr (some ⟨w2.heap.size, 0, none⟩) n (fun k => decide (over < lessF W T f n k))) := Lib.hid (by rw [e] at hO; exact hO.out.whole.row)
      have HB4 := Lib.hid (below_step HB2.out hB.out)
      have HLS4 := Lib.hid (HLS.out.below hB.out)
      clear hO hB hL e HLS HB2
      have hq := HPi.out.below HB4.out
      have q0 := hq.1
      clear hq
      go_wp2_with fail
      refine (HLA.out _ _ _ wr HF.out).mono ?_; rintro e w5 ⟨Z, rfl, hZ, hLb⟩
      have HB5 := Lib.hid (below_step HB4.out hZ.2.1)
      have hZ4 := hZ.2.2.2
      have HZC : Hid (∀ W', Below w5.heap.size w5 W' → ∀ j, j < n → W'.cell? ⟨wr.heap.size, j, none⟩ = some (.int .i64 (Z j))) := Lib.hid (fun W' hb j hj => by
        have h1 := (hZ.1 j hj).1
        rw [hb.cell (p := ⟨wr.heap.size, j, none⟩) (cell_lt h1)]
        exact h1)
      have HLC : Hid (∀ W', Below w5.heap.size w5 W' → ∀ j, j < n → ∃ bl ol, gl = some ⟨bl, ol, none⟩ ∧ W'.cell? ⟨bl, ol + j, none⟩ = some (.int .i64 (lessF W T f n j))) := Lib.hid (fun W' hb j hj => by
        obtain ⟨bl, ol, e0, hbl, cl⟩ := (HLS4.out.below hZ.2.1).at hj
        exact ⟨bl, ol, e0, by rw [hb.cell (p := ⟨bl, ol + j, none⟩) hbl]; exact cl⟩)
      have HPC : Hid (∀ W', Below w5.heap.size w5 W' → W'.cell? ⟨b, o, none⟩ = some (.int .i64 W) ∧ W'.cell? ⟨b, o + 1, none⟩ = some (.int .i64 H)) := Lib.hid (fun W' hb => by
        have h := HPi.out.below (below_step HB5.out hb)
        exact ⟨h.1, h.2.1⟩)
      have HLB := Lib.hid hLb
      have hrc := rc_le (lit := fun k => decide (over < lessF W T f n k)) (wide := W) (n := n) n
      clear hZ hLb q0 HLS4 HB4 HF HLA HPi hZ4
      generalize wr.heap.size = gz at *
      generalize hmm : rc (fun k => decide (over < lessF W T f n k)) W n n = m at *
      have HMM := Lib.hid hmm
      clear hmm
      obtain ⟨R, hR⟩ : ∃ R, (fun p => rfS W H (lessF W T f n) Z p n) = R := ⟨_, rfl⟩
      have HR := Lib.hid hR
      clear hR
      have HRL : Hid (∀ p, (refL R least p).length ≤ p) := Lib.hid (refL_len R least)
      have HOW0 : Hid (w5.ownsRow w5.heap.size 54 9 (.slice none 0 0) (refL R least 0).length (encL (refL R least 0))) := Lib.hid (World.ownsRow_nil _ _ _ _)
      go_wp2
      go_loopw [17, 18] (fun v x wq => ∃ p : Nat, p ≤ m ∧ x = .int .i64 ((p : Int) + 1) ∧ Hid (wq.ownsRow w5.heap.size 54 9 v (refL R least p).length (encL (refL R least p))) ∧ Hid (Below w5.heap.size w5 wq)) (fun _ x _ => m + 1 - (intOf x).toNat)
      case atStart => exact ⟨0, Nat.zero_le _, rfl, HOW0, Lib.hid (Below.refl _ _)⟩
      case round =>
        clear HOW0
        obtain ⟨p, hpm, rfl, hOW, hBq⟩ := hrel
        generalize wr = wr0 at *
        by_cases hlp : p < m
        · obtain ⟨q0, q1⟩ := HPC.out _ hBq.out
          have hd72 : decide ((p : Int) + 1 ≤ (m : Int)) = true := decide_eq_true (by omega)
          have hbl : b < wr0.heap.size := cell_lt q0
          go_wp2
          go_region
          have HX0 : Hid (BoxZ ((wr0.alloc (.cells #[.int .i64 (W : Int), .int .i64 (H : Int), .int .i64 (-1), .int .i64 (-1), .int .i64 0, .int .i64 0, .int .i64 0, .int .i64 0, .int .i64 0] 54)).drew) wr0.heap.size (holdS (rfS W H (lessF W T f n) Z p 0))) := Lib.hid (BoxZ.drew1 (box_new wr0 ⟨W, H, -1, -1, 0, 0, 0, 0, 0⟩ _))
          have HB0 : Hid (Below wr0.heap.size wr0 ((wr0.alloc (.cells #[.int .i64 (W : Int), .int .i64 (H : Int), .int .i64 (-1), .int .i64 (-1), .int .i64 0, .int .i64 0, .int .i64 0, .int .i64 0, .int .i64 0] 54)).drew)) := Lib.hid (Below.drew ((Below.refl _ _).alloc (Nat.le_refl _) _))
          generalize ((wr0.alloc (.cells #[.int .i64 (W : Int), .int .i64 (H : Int), .int .i64 (-1), .int .i64 (-1), .int .i64 0, .int .i64 0, .int .i64 0, .int .i64 0, .int .i64 0] 54)).drew) = wd at *
          have HGS : Hid (w5.heap.size ≤ wr0.heap.size) := Lib.hid hBq.out.size
          have HST : Hid (∀ W', Below wr0.heap.size wr0 W' → Below w5.heap.size w5 W') := Lib.hid (fun W' hb => hBq.out.trans (hb.mono HGS.out))
          clear q0 q1 hbl
          generalize hgs : wr0.heap.size = gs at *
          have HGE := Lib.hid hgs
          clear hgs
          go_wp2
          go_loopw [20, 21, 22] (fun sx sy i wq => ∃ j : Nat, j ≤ n ∧ i = .int .i64 j ∧ sx = .int .i64 (rfS W H (lessF W T f n) Z p j).X ∧ sy = .int .i64 (rfS W H (lessF W T f n) Z p j).Y ∧ Hid (BoxZ wq gs (holdS (rfS W H (lessF W T f n) Z p j))) ∧ Hid (Below gs wr0 wq)) (fun _ _ i _ => n - (intOf i).toNat)
          case atStart => exact ⟨0, Nat.zero_le _, rfl, rfl, rfl, HX0, HB0⟩
          case round =>
            clear HX0 HB0
            obtain ⟨j, hj, rfl, rfl, rfl, hX, hB⟩ := hrel
            generalize wr = wq at *
            have hbd := rfS_bd (H := H) (Z := Z) (W := W) (n := n) (l := lessF W T f n) (by omega) (by omega) (fun i hi => (HDV.out i hi).1) (fun i hi => lessF_bd HCN.out hi) p j hj
            by_cases hlt : j < n
            · obtain ⟨q0, q1⟩ := HPC.out _ (HST.out _ hB.out)
              have cz := HZC.out _ (HST.out _ hB.out) j hlt
              have HNM := Lib.hid (fun h => rfS_miss W H (lessF W T f n) Z (p := p) (i := j) h)
              have HNH := Lib.hid (fun h => rfS_hit W H (lessF W T f n) Z (p := p) (i := j) h)
              by_cases hz : Z j = (p : Int) + 1
              · have HNX := Lib.hid (HNH.out hz)
                rw [hz] at cz
                clear hz HNM HNH
                obtain ⟨bl, ol, e0, cl⟩ := HLC.out _ (HST.out _ hB.out) j hlt
                have hlb := lessF_bd (W := W) (T := T) HCN.out hlt
                obtain ⟨s, hs⟩ : ∃ s, rfS W H (lessF W T f n) Z p j = s := ⟨_, rfl⟩
                rw [hs] at hbd hX HNX ⊢
                clear hs
                obtain ⟨sL, sT, sR, sO, sP, sI, sX, sY, sS⟩ := s
                obtain ⟨p0, p1, l0, l1, x0, x1, y0, y1⟩ := hbd
                simp only at p0 p1 l0 l1 x0 x1 y0 y1
                subst e0
                obtain ⟨lk, hlk⟩ : ∃ lk, lessF W T f n j = lk := ⟨_, rfl⟩
                rw [hlk] at cl hlb
                obtain ⟨hyb, hxb⟩ := HDV.out j hlt
                have e1 : (j : Int) / (W : Int) = ((j / W : Nat) : Int) := (Int.natCast_ediv _ _).symm
                have e3 : (j : Int) % (W : Int) = ((j % W : Nat) : Int) := (Int.natCast_emod _ _).symm
                have t1 : (j : Int).tdiv (W : Int) = ((j / W : Nat) : Int) := (Int.tdiv_eq_ediv_of_nonneg (Int.natCast_nonneg _)).trans e1
                have t3 : (j : Int).tmod (W : Int) = ((j % W : Nat) : Int) := (Int.tmod_eq_emod_of_nonneg (Int.natCast_nonneg _)).trans e3
                unfold addR at HNX
                rw [hlk] at HNX
                generalize j % W = x at *
                generalize j / W = y at *
                have u1 : IntKind.i64.wrap (x : Int) = (x : Int) := IntWalk.i64_in _ (by omega)
                have u2 : IntKind.i64.wrap (y : Int) = (y : Int) := IntWalk.i64_in _ (by omega)
                have z1 : ¬ ((W : Int) = 0) := by omega
                have z2 : ¬ (W = 0) := by omega
                have z3 : ((W : Int) == 0) = false := by simp; omega
                have hxr : (0 : Int) ≤ (x : Int) ∧ (x : Int) ≤ 256 := by omega
                have hyr : (0 : Int) ≤ (y : Int) ∧ (y : Int) ≤ 256 := by omega
                obtain ⟨m1, m2⟩ := prod_bd (a := 1024 * (x : Int) + 512) (b := lk) (by omega) (by omega) hlb.1 hlb.2
                obtain ⟨m3, m4⟩ := prod_bd (a := 1024 * (y : Int) + 512) (b := lk) (by omega) (by omega) hlb.1 hlb.2
                have kb : (j : Int) ≤ 65536 := by omega
                have v1 : IntKind.i64.wrap (sP + 1) = sP + 1 := IntWalk.i64_in _ (by omega)
                have v2 : IntKind.i64.wrap (sI + lk) = sI + lk := IntWalk.i64_in _ (by omega)
                have v3 : IntKind.i64.wrap ((1024 * (x : Int) + 512) * lk) = (1024 * (x : Int) + 512) * lk := IntWalk.i64_in _ (by omega)
                have v4 : IntKind.i64.wrap ((1024 * (y : Int) + 512) * lk) = (1024 * (y : Int) + 512) * lk := IntWalk.i64_in _ (by omega)
                have v5 : IntKind.i64.wrap (sX + (1024 * (x : Int) + 512) * lk) = sX + (1024 * (x : Int) + 512) * lk := IntWalk.i64_in _ (by omega)
                have v6 : IntKind.i64.wrap (sY + (1024 * (y : Int) + 512) * lk) = sY + (1024 * (y : Int) + 512) * lk := IntWalk.i64_in _ (by omega)
                have v7 : IntKind.i64.wrap (1024 * (x : Int)) = 1024 * (x : Int) := IntWalk.i64_in _ (by omega)
                have v8 : IntKind.i64.wrap (1024 * (y : Int)) = 1024 * (y : Int) := IntWalk.i64_in _ (by omega)
                have v9 : IntKind.i64.wrap (1024 * (x : Int) + 512) = 1024 * (x : Int) + 512 := IntWalk.i64_in _ (by omega)
                have v10 : IntKind.i64.wrap (1024 * (y : Int) + 512) = 1024 * (y : Int) + 512 := IntWalk.i64_in _ (by omega)
                have HNX2 : Hid (rfS W H (lessF W T f n) Z p (j + 1) = ⟨if (x : Int) < sL then (x : Int) else sL, if (y : Int) < sT then (y : Int) else sT, if sR < (x : Int) then (x : Int) else sR, if sO < (y : Int) then (y : Int) else sO, sP + 1, sI + lk, sX + (1024 * (x : Int) + 512) * lk, sY + (1024 * (y : Int) + 512) * lk, sS⟩) := HNX
                have hX2 : Hid (BoxZ wq gs ⟨sL, sT, sR, sO, sP, sI, 0, 0, 0⟩) := hX
                obtain ⟨⟨c0, c1, c2, c3, c4, c5, c6, c7, c8⟩, f0, f1, f2, f3, f4, f5, f6, f7, f8⟩ := hX2.out.cells
                have hbz : (((p : Int) + 1) != (p : Int) + 1) = false := by simp
                have hne1 : bl ≠ gs := fun e => by
                  have h1 := HLC.out w5 (Below.refl _ _) j hlt
                  obtain ⟨bl', ol', e0, c⟩ := h1
                  cases e0
                  have := cell_lt c
                  have := HGS.out
                  omega
                have hne2 : b ≠ gs := fun e => by
                  have := cell_lt (HPC.out w5 (Below.refl _ _)).1
                  have := HGS.out
                  omega
                have hne3 : gz ≠ gs := fun e => by
                  have := cell_lt (HZC.out w5 (Below.refl _ _) j hlt)
                  have := HGS.out
                  omega
                clear HNX hX q1 c6 c7 c8 f6 f7 f8
                have HLW := Lib.hid (fun W' hb => by
                  obtain ⟨bl', ol', e0, c⟩ := HLC.out W' (HST.out W' hb) j hlt
                  exact (show W'.cell? ⟨bl, ol + j, none⟩ = some (.int .i64 (lessF W T f n j)) by cases e0; exact c))
                rw [hlk] at HLW
                clear hlk
                go_upto_if 111 with (fail)
                go_cut [] from 84 to 163 (fun wx => Hid (BoxZ wx gs ⟨(if (x : Int) < sL then (x : Int) else sL), sT, sR, sO, sP, sI, 0, 0, 0⟩) ∧ Hid (Below gs wr0 wx))
                case first =>
                  by_cases k1 : (x : Int) < sL
                  · go_wp2
                    go_meet
                    case rel => exact ⟨Lib.hid (by rw [if_pos k1]; exact BoxZ.put' hX2.out (by decide) rfl), Lib.hid (hB.out.setCell (p := ⟨gs, 0, none⟩) (Nat.le_refl _) _)⟩
                  · go_wp2
                    go_meet
                    case rel => exact ⟨Lib.hid (by rw [if_neg (by omega)]; exact hX2.out), hB⟩
                clear c0 c1 c2 c3 c4 c5 f0 f1 f2 f3 f4 f5 hX2 hB
                obtain ⟨hX2, hB⟩ := hcut
                obtain ⟨a0, ha0⟩ : ∃ z, (if (x : Int) < sL then (x : Int) else sL) = z := ⟨_, rfl⟩
                rw [ha0] at hX2
                have HA0 := Lib.hid ha0
                clear ha0
                generalize wc = wq0 at *
                obtain ⟨⟨c0, c1, c2, c3, c4, c5, _, _, _⟩, f0, f1, f2, f3, f4, f5, _, _, _⟩ := hX2.out.cells
                go_upto_if 117 with (fail)
                go_cut [] from 84 to 163 (fun wx => Hid (BoxZ wx gs ⟨a0, sT, (if sR < (x : Int) then (x : Int) else sR), sO, sP, sI, 0, 0, 0⟩) ∧ Hid (Below gs wr0 wx))
                case first =>
                  by_cases k1 : sR < (x : Int)
                  · go_wp2
                    go_meet
                    case rel => exact ⟨Lib.hid (by rw [if_pos k1]; exact BoxZ.put' hX2.out (by decide) rfl), Lib.hid (hB.out.setCell (p := ⟨gs, 2, none⟩) (Nat.le_refl _) _)⟩
                  · go_wp2
                    go_meet
                    case rel => exact ⟨Lib.hid (by rw [if_neg (by omega)]; exact hX2.out), hB⟩
                clear c0 c1 c2 c3 c4 c5 f0 f1 f2 f3 f4 f5 hX2 hB
                obtain ⟨hX2, hB⟩ := hcut
                obtain ⟨a1, ha1⟩ : ∃ z, (if sR < (x : Int) then (x : Int) else sR) = z := ⟨_, rfl⟩
                rw [ha1] at hX2
                have HA1 := Lib.hid ha1
                clear ha1
                generalize wc = wq1 at *
                obtain ⟨⟨c0, c1, c2, c3, c4, c5, _, _, _⟩, f0, f1, f2, f3, f4, f5, _, _, _⟩ := hX2.out.cells
                go_upto_if 123 with (fail)
                go_cut [] from 84 to 163 (fun wx => Hid (BoxZ wx gs ⟨a0, (if (y : Int) < sT then (y : Int) else sT), a1, sO, sP, sI, 0, 0, 0⟩) ∧ Hid (Below gs wr0 wx))
                case first =>
                  by_cases k1 : (y : Int) < sT
                  · go_wp2
                    go_meet
                    case rel => exact ⟨Lib.hid (by rw [if_pos k1]; exact BoxZ.put' hX2.out (by decide) rfl), Lib.hid (hB.out.setCell (p := ⟨gs, 1, none⟩) (Nat.le_refl _) _)⟩
                  · go_wp2
                    go_meet
                    case rel => exact ⟨Lib.hid (by rw [if_neg (by omega)]; exact hX2.out), hB⟩
                clear c0 c1 c2 c3 c4 c5 f0 f1 f2 f3 f4 f5 hX2 hB
                obtain ⟨hX2, hB⟩ := hcut
                obtain ⟨a2, ha2⟩ : ∃ z, (if (y : Int) < sT then (y : Int) else sT) = z := ⟨_, rfl⟩
                rw [ha2] at hX2
                have HA2 := Lib.hid ha2
                clear ha2
                generalize wc = wq2 at *
                obtain ⟨⟨c0, c1, c2, c3, c4, c5, _, _, _⟩, f0, f1, f2, f3, f4, f5, _, _, _⟩ := hX2.out.cells
                go_upto_if 129 with (fail)
                go_cut [] from 84 to 163 (fun wx => Hid (BoxZ wx gs ⟨a0, a2, a1, (if sO < (y : Int) then (y : Int) else sO), sP, sI, 0, 0, 0⟩) ∧ Hid (Below gs wr0 wx))
                case first =>
                  by_cases k1 : sO < (y : Int)
                  · go_wp2
                    go_meet
                    case rel => exact ⟨Lib.hid (by rw [if_pos k1]; exact BoxZ.put' hX2.out (by decide) rfl), Lib.hid (hB.out.setCell (p := ⟨gs, 3, none⟩) (Nat.le_refl _) _)⟩
                  · go_wp2
                    go_meet
                    case rel => exact ⟨Lib.hid (by rw [if_neg (by omega)]; exact hX2.out), hB⟩
                clear c0 c1 c2 c3 c4 c5 f0 f1 f2 f3 f4 f5 hX2 hB
                obtain ⟨hX2, hB⟩ := hcut
                obtain ⟨a3, ha3⟩ : ∃ z, (if sO < (y : Int) then (y : Int) else sO) = z := ⟨_, rfl⟩
                rw [ha3] at hX2
                have HA3 := Lib.hid ha3
                clear ha3
                generalize wc = wq3 at *
                obtain ⟨⟨c0, c1, c2, c3, c4, c5, _, _, _⟩, f0, f1, f2, f3, f4, f5, _, _, _⟩ := hX2.out.cells
                have clw := HLW.out _ hB.out
                go_wp2
                go_region
                have HX5 : Hid (BoxZ (((wq3.setCell ⟨gs, 4, none⟩ (.int .i64 (sP + 1))).setCell ⟨gs, 5, none⟩ (.int .i64 (sI + lk))).drew) gs ⟨a0, a2, a1, a3, sP + 1, sI + lk, 0, 0, 0⟩) := Lib.hid (BoxZ.drew1 (BoxZ.put' (BoxZ.put' hX2.out (by decide) rfl) (by decide) rfl))
                have HQ5 : Hid (Below gs wr0 (((wq3.setCell ⟨gs, 4, none⟩ (.int .i64 (sP + 1))).setCell ⟨gs, 5, none⟩ (.int .i64 (sI + lk))).drew)) := Lib.hid (Below.drew ((hB.out.setCell (p := ⟨gs, 4, none⟩) (Nat.le_refl _) _).setCell (p := ⟨gs, 5, none⟩) (Nat.le_refl _) _))
                clear c0 c1 c2 c3 c4 c5 f0 f1 f2 f3 f4 f5 hX2 hB clw cz q0
                generalize (((wq3.setCell ⟨gs, 4, none⟩ (.int .i64 (sP + 1))).setCell ⟨gs, 5, none⟩ (.int .i64 (sI + lk))).drew) = wn at *
                have clw := HLW.out _ HQ5.out
                generalize (x : Int) = xi at *
                generalize (y : Int) = yi at *
                clear hbz hne1 hne2 hne3 z1 z2 z3 e1 e3
                go_wp2
                go_roundw
                case rel =>
                  refine ⟨j + 1, by omega, by go_num, ?_, ?_, Lib.hid ?_, HQ5⟩
                  · rw [HNX2.out]
                  · rw [HNX2.out]
                  · rw [HNX2.out, HA0.out, HA1.out, HA2.out, HA3.out]
                    exact HX5.out
                case measure => simp [intOf]; omega
              · have HNX := Lib.hid (HNM.out hz)
                obtain ⟨zj, hzj⟩ : ∃ zj, Z j = zj := ⟨_, rfl⟩
                rw [hzj] at cz hz
                have hbz : (zj != (p : Int) + 1) = true := by simpa using hz
                clear hz HNM HNH hbd hzj
                go_wp2
                go_roundw
                case rel => exact ⟨j + 1, by omega, by go_num, by rw [HNX.out], by rw [HNX.out], Lib.hid (by rw [HNX.out]; exact hX.out), hB⟩
                case measure => simp [intOf]; omega
            · have ej : j = n := by omega
              have hlight := rfS_light (W := W) (H := H) (l := lessF W T f n) (Z := Z) (n := n) p (fun i hi hz => by
                have := of_decide_eq_true (labels_lit HLB.out hi hz)
                omega) n (Nat.le_refl _)
              have HRP : Hid (R p = rfS W H (lessF W T f n) Z p n) := Lib.hid (by rw [← HR.out])
              rw [ej] at hX hbd ⊢
              obtain ⟨s, hs⟩ : ∃ s, rfS W H (lessF W T f n) Z p n = s := ⟨_, rfl⟩
              rw [hs] at hX hbd hlight HRP ⊢
              clear hs ej hlt
              have HBE := Lib.hid (HST.out _ hB.out)
              have HOW2 := Lib.hid (own_below hOW.out (by rw [HGE.out]; exact hB.out))
              have hrl := HRL.out p
              have hsz := HBE.out.size
              obtain ⟨sL, sT, sR, sO, sP, sI, sX, sY, sS⟩ := s
              obtain ⟨p0, p1, l0, l1, x0, x1, y0, y1⟩ := hbd
              simp only at p0 p1 l0 l1 x0 x1 y0 y1 hlight
              have hX2 : Hid (BoxZ wq gs ⟨sL, sT, sR, sO, sP, sI, 0, 0, 0⟩) := hX
              obtain ⟨⟨c0, c1, c2, c3, c4, c5, c6, c7, c8⟩, f0, f1, f2, f3, f4, f5, f6, f7, f8⟩ := hX2.out.cells
              clear hX
              by_cases c : sP < least
              · have HNX : Hid (refL R least (p + 1) = refL R least p) := Lib.hid (by rw [refL, HRP.out, if_pos c])
                go_wp2
                go_roundw
                case rel => exact ⟨p + 1, by omega, by go_num, Lib.hid (by rw [HNX.out]; exact HOW2.out), HBE⟩
                case measure => simp [intOf]; omega
              · have HNX : Hid (refL R least (p + 1) = placeL (refL R least p) (starS ⟨sL, sT, sR, sO, sP, sI, sX, sY, sS⟩)) := Lib.hid (by rw [refL, HRP.out, if_neg c])
                have kb : (n : Int) ≤ 65536 := by omega
                have hI : 1 ≤ sI := by omega
                have dx := tdiv_bd (c := 1128085742198784) hI (show -1128085742198784 ≤ sX by omega) (show sX ≤ 1128085742198784 by omega)
                have dy := tdiv_bd (c := 1128085742198784) hI (show -1128085742198784 ≤ sY by omega) (show sY ≤ 1128085742198784 by omega)
                have z1 : ¬ (sI = 0) := by omega
                have z2 : (sI == 0) = false := by simp; omega
                have u1 : IntKind.i64.wrap (sX.tdiv sI) = sX.tdiv sI := IntWalk.i64_in _ (by omega)
                have u2 : IntKind.i64.wrap (sY.tdiv sI) = sY.tdiv sI := IntWalk.i64_in _ (by omega)
                have HX4 : Hid (BoxZ ((((wq.setCell ⟨gs, 6, none⟩ (.int .i64 (sX.tdiv sI))).setCell ⟨gs, 7, none⟩ (.int .i64 (sY.tdiv sI))).setCell ⟨gs, 8, none⟩ (.int .i64 sI)).drew) gs (starS ⟨sL, sT, sR, sO, sP, sI, sX, sY, sS⟩)) := Lib.hid (BoxZ.drew1 (BoxZ.put' (BoxZ.put' (BoxZ.put' hX2.out (by decide) rfl) (by decide) rfl) (by decide) rfl))
                have HQ4 : Hid (Below gs wr0 ((((wq.setCell ⟨gs, 6, none⟩ (.int .i64 (sX.tdiv sI))).setCell ⟨gs, 7, none⟩ (.int .i64 (sY.tdiv sI))).setCell ⟨gs, 8, none⟩ (.int .i64 sI)).drew)) := Lib.hid (Below.drew (((hB.out.setCell (p := ⟨gs, 6, none⟩) (Nat.le_refl _) _).setCell (p := ⟨gs, 7, none⟩) (Nat.le_refl _) _).setCell (p := ⟨gs, 8, none⟩) (Nat.le_refl _) _))
                clear HOW2 hX2
                go_wp2
                go_region
                clear c0 c1 c2 c3 c4 c5 c6 c7 c8 f0 f1 f2 f3 f4 f5 f6 f7 f8 hB HBE hsz
                generalize (((wq.setCell ⟨gs, 6, none⟩ (.int .i64 (sX.tdiv sI))).setCell ⟨gs, 7, none⟩ (.int .i64 (sY.tdiv sI))).setCell ⟨gs, 8, none⟩ (.int .i64 sI)).drew = wz at *
                obtain ⟨⟨c0, c1, c2, c3, c4, c5, c6, c7, c8⟩, _⟩ := HX4.out.cells
                have HBE := Lib.hid (HST.out _ HQ4.out)
                have HOW2 := Lib.hid (own_below hOW.out (by rw [HGE.out]; exact HQ4.out))
                have HPL := Lib.hid (placed_any (refL R least p) (starS ⟨sL, sT, sR, sO, sP, sI, sX, sY, sS⟩) w5.heap.size u17 wz (by omega) HBE.out.size HOW2.out)
                clear HOW2 HX4 hOW
                go_wp2_with fail
                refine HPL.out.mono ?_; rintro e w7 ⟨v', rfl, ho7, hb7⟩
                have HO7 := Lib.hid ho7
                have HB7 := Lib.hid (below_step HBE.out hb7)
                clear ho7 hb7 HPL c0 c1 c2 c3 c4 c5 c6 c7 c8
                go_wp2
                go_roundw
                case rel => exact ⟨p + 1, by omega, by go_num, Lib.hid (by rw [HNX.out]; exact HO7.out), HB7⟩
                case measure => simp [intOf]; omega
        · obtain rfl : p = m := by omega
          have HBe := Lib.hid (below_step HB5.out hBq.out)
          have hw5 := HB5.out.size
          go_wp2
          go_ret2
          refine ⟨Z, u17, rfl, HLB.out, ?_, HBe.out⟩
          rw [HMM.out, HR.out]
          exact hOW.out.mono hw5
end Go.Proofs.YthbekddpnkammaaDoor
