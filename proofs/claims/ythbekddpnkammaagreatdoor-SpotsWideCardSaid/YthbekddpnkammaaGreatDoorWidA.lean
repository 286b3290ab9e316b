/- spots.Wide at what is right. -/
import Derived.Test.YthbekddpnkammaaGreatDoorWidE
import Derived.Test.YthbekddpnkammaaGreatDoorWidP
import Derived.Test.YthbekddpnkammaaGreatDoorWidR
import Derived.Maps.AppendAt
import Derived.Laws.AppendOwnNone
import Derived.Deep.Onto
import Derived.Deep.AppendLies
import Derived.Lib.SmallJoins
namespace Go.Proofs.YthbekddpnkammaaGreatDoor
open Go.RowKit

def zero2 : Value := .agg #[.int .i64 0, .int .i64 0]
theorem info_ring : (Tryz.prog.info? 64).map (fun i => (i.zero, i.size, i.bytes)) = some (some zero2, 2, 16) := by kernel_rfl
theorem add_lit2 (g o j : Nat) : (⟨g, o, none⟩ : Addr).add j = ⟨g, o + j, none⟩ := by unfold Addr.add; split <;> simp_all
theorem news2 (w : World) (x y : Int) (t : TypeId) : ∀ j u, (encR (x, y))[j]? = some u → (w.alloc (.cells #[.int .i64 x, .int .i64 y] t)).cell? ((⟨w.heap.size, 0, none⟩ : Addr).add j) = some u := fun j u hu => by
  rw [add_lit2, cell_of_row _ w.heap.size _ _ t (0, 0) (heap_alloc_new w _), Nat.zero_add, List.getElem?_toArray]
  exact hu
/-- Rings gathered so far. -/
def GathR (w : World) (v : Value) (L : List (Int × Int)) (wr : World) : Prop := wr.ownsRow w.heap.size 64 2 v L.length (encRs L) ∧ Below w.heap.size w wr
theorem GathR.nil (w : World) : GathR w (.slice none 0 0) [] w := ⟨World.ownsRow_nil _ _ _ _, Below.refl _ _⟩
theorem GathR.below {w wr w' : World} {v : Value} {L : List (Int × Int)} (h : GathR w v L wr) (hb : Below wr.heap.size wr w') : GathR w v L w' := ⟨own_below h.1 hb, below_step h.2 hb⟩
theorem GathR.step {w : World} {v v' : Value} {L : List (Int × Int)} {a : Int × Int} {wr w1 : World} {o : Obj} (h : GathR w v L wr) (hown : w1.ownsRow w.heap.size 64 2 v' (L.length + 1) (encRs L ++ encR a)) (hg : (wr.alloc o).grownBy w1 v.ownBlock) : GathR w v' (L ++ [a]) w1 := by
  obtain ⟨h1, h4⟩ := h
  have hs := h4.size
  refine ⟨?_, (h4.alloc hs o).grown hg (by simp only [World.size_alloc]; omega) (fun j hj => (h1.lt j hj).1)⟩
  rw [List.length_append, ← encRs_more]; exact hown
/-- What Wide answers at a box. -/
def widRes (ad : Nat → Addr) (A : List (Int × Int)) (share : Int) (e : Ending) : Prop :=
  (sumN A = 0 ∧ e = .returned (.tuple #[.int .i64 0, errV ad 8])) ∨ (sumN A ≠ 0 ∧ ∃ v, e = .returned (.tuple #[.int .i64 v, .nilIface]) ∧ LeastD A (Enough share (sumN A) A) v)
/-- Rings in a block, two cells each. -/
theorem ring_cells {w : World} {g n : Nat} {d : Nat → Int × Int} (h : OutZ w g (n * 2) (cellR d)) {k : Nat} (hk : k < n) : w.cell? ⟨g, k * 2, none⟩ = some (.int .i64 (d k).1) ∧ w.cell? ⟨g, k * 2 + 1, none⟩ = some (.int .i64 (d k).2) := by
  refine ⟨?_, ?_⟩
  · rw [(h (k * 2) (by omega)).1]
    unfold cellR
    rw [if_pos (by omega), Nat.mul_div_cancel _ (by decide)]
  · rw [(h (k * 2 + 1) (by omega)).1]
    unfold cellR
    rw [if_neg (by omega), show (k * 2 + 1) / 2 = k by omega]
set_option maxRecDepth 10000 in
set_option maxHeartbeats 16000000 in
theorem wide_okI (ad : Nat → Addr) (V K : Nat) (W H sL sT sR sO : Int) (L R T O bw bh : Nat) (P I X Y S share : Int) (f : Nat → Int) (a : Option Addr) (n cap : Nat) (w : World) (he : Errs w ad [1, 4, 8]) (h : IRow w a n f) (g : picG W H n f)
    (eW : W = V) (eH : H = K) (eL : sL = L) (eR : sR = R) (eT : sT = T) (eO : sO = O) (s1 : 1 ≤ share) (s2 : share ≤ 100) (hR : R + 1 = L + bw) (hO : O + 1 = T + bh) (hB : InBox V K n L T bw bh) (X0 : -268435456 ≤ X) (X1 : X ≤ 268435456) (Y0 : -268435456 ≤ Y) (Y1 : Y ≤ 268435456) :
    Calls Tryz.prog 8 #[.agg #[.int .i64 W, .int .i64 H, .slice a n cap], aggSp ⟨sL, sT, sR, sO, P, I, X, Y, S⟩, .int .i64 share] w fun e w' =>
      widRes ad (boxP (ringG X Y V L T f) bw bh 0) share e ∧ Below w.heap.size w w' := by
  obtain ⟨i0, hi, hz0, hz1, hz2⟩ := info_parts info_ring
  have HV := Lib.hid (fun o1 o2 => validP_ok ad W H f a n cap ((w.alloc o1).alloc o2) (Errs.below (fun i hi => he i (by simp at hi ⊢; omega)) (below2 o1 o2)) (h.below (below2 o1 o2)) g)
  have HA := Lib.hid (fun j (hj : j < n) => h.at hj)
  have HC := Lib.hid g.2.2.2.2.2
  have n2 := (area_bd g).2
  have HE := Lib.hid he
  have HX := Lib.hid (farW_any X)
  have HY := Lib.hid (farW_any Y)
  have ex : (decide (268435456 < X) || decide (X < -268435456)) = false := by simp; omega
  have ey : (decide (268435456 < Y) || decide (Y < -268435456)) = false := by simp; omega
  rw [ex] at HX
  rw [ey] at HY
  have hbw := hB.some.1
  have hbh := hB.some.2
  have hV := hB.wide
  have hK := hB.high
  have hLV := hB.right
  have hTK := hB.low
  have HSM := Lib.hid (fun y x h1 h2 h3 h4 => bxL_sums hB g.2.2.2.2.2 X0 X1 Y0 Y1 (y := y) (x := x) h1 h2 h3 h4)
  have HIX := Lib.hid (fun y x h1 h2 h3 h4 => bxL_at hB (y := y) (x := x) h1 h2 h3 h4)
  have HST := Lib.hid (fun y x (h1 : T ≤ y) (h2 : L ≤ x) => bxL_step X Y V f bw h1 h2)
  have HRO := Lib.hid (fun y (h1 : T ≤ y) => bxL_row X Y V (L := L) f bw h1)
  have HAL := Lib.hid (bxL_all X Y V L T f bw bh)
  have HS0 := Lib.hid (bxL_start X Y V L T f bw)
  have HNE := Lib.hid (box_ne hB (ringG X Y V L T f))
  have HME := Lib.hid (fun a (ha : a ∈ boxP (ringG X Y V L T f) bw bh 0) => (hB.mem g.2.2.2.2.2 X0 X1 Y0 Y1 (Or.inr ⟨rfl, rfl⟩) (Nat.zero_le _) ha).2)
  have d0 : decide (share < 1) = false := by simp; omega
  have d1 : decide (100 < share) = false := by simp; omega
  have d2 : decide (sL < 0) = false := by simp; omega
  have d3 : decide (sR < sL) = false := by simp; omega
  have d4 : decide (W ≤ sR) = false := by simp; omega
  have d5 : decide (sT < 0) = false := by simp; omega
  have d6 : decide (sO < sT) = false := by simp; omega
  have d7 : decide (H ≤ sO) = false := by simp; omega
  have HQ := Lib.hid (show W = V ∧ H = K ∧ sL = L ∧ sR = R ∧ sT = T ∧ sO = O from ⟨eW, eH, eL, eR, eT, eO⟩)
  have HN := Lib.hid (show (R + 1 = L + bw ∧ O + 1 = T + bh) ∧ (1 ≤ bw ∧ 1 ≤ bh) ∧ (1 ≤ V ∧ V ≤ 256) ∧ (1 ≤ K ∧ K ≤ 256) ∧ L + bw ≤ V ∧ T + bh ≤ K from ⟨⟨hR, hO⟩, ⟨hbw, hbh⟩, hV, hK, hLV, hTK⟩)
  generalize boxP (ringG X Y V L T f) bw bh 0 = LL at *
  clear he h g ex ey hB eW eH eL eR eT eO hR hO hbw hbh hV hK hLV hTK
  unfold aggSp
  go_enter Tryz.func8, Tryz.ntmps8
  go_wp2_with fail
  refine (HV.out _ _).mono ?_; rintro e wa ⟨rfl, hb1⟩
  obtain ⟨⟨k0, k1, k2⟩, q0, q1, q2, q3, q6, q7⟩ := wide_boxes hb1
  have HB := Lib.hid (below_step (below2 _ _) hb1)
  have hsz : w.heap.size + 1 < wa.heap.size := cell_lt q0
  clear hb1 HV
  go_wp2_with fail
  refine (HX.out _).mono ?_; rintro e w2 ⟨rfl, rfl⟩
  go_wp2_with fail
  refine (HY.out _).mono ?_; rintro e w2 ⟨rfl, rfl⟩
  clear HX HY
  go_wp2
  clear d0 d1 d2 d3 d4 d5 d6 d7
  have HS : Hid (∀ W', Below wa.heap.size wa W' → (W'.cell? ⟨w.heap.size, 0, none⟩ = some (.int .i64 W) ∧ W'.cell? ⟨w.heap.size, 2, none⟩ = some (.slice a n cap)) ∧ (W'.cell? ⟨w.heap.size + 1, 0, none⟩ = some (.int .i64 sL) ∧ W'.cell? ⟨w.heap.size + 1, 2, none⟩ = some (.int .i64 sR) ∧ W'.cell? ⟨w.heap.size + 1, 3, none⟩ = some (.int .i64 sO)) ∧ W'.cell? ⟨w.heap.size + 1, 6, none⟩ = some (.int .i64 X) ∧ W'.cell? ⟨w.heap.size + 1, 7, none⟩ = some (.int .i64 Y)) := Lib.hid (fun W' hb => ⟨⟨by rw [hb.cell (p := ⟨w.heap.size, 0, none⟩) (show w.heap.size < wa.heap.size by omega)]; exact k0, by rw [hb.cell (p := ⟨w.heap.size, 2, none⟩) (show w.heap.size < wa.heap.size by omega)]; exact k2⟩, ⟨by rw [hb.cell (p := ⟨w.heap.size + 1, 0, none⟩) hsz]; exact q0, by rw [hb.cell (p := ⟨w.heap.size + 1, 2, none⟩) hsz]; exact q2, by rw [hb.cell (p := ⟨w.heap.size + 1, 3, none⟩) hsz]; exact q3⟩, by rw [hb.cell (p := ⟨w.heap.size + 1, 6, none⟩) hsz]; exact q6, by rw [hb.cell (p := ⟨w.heap.size + 1, 7, none⟩) hsz]; exact q7⟩)
  clear k0 k1 k2 q0 q1 q2 q3 q6 q7
  obtain ⟨eW, eH, eL, eR, eT, eO⟩ := HQ.out
  clear HQ
  subst eW eH eL eR eT eO
  go_loopw [9, 10, 11] (fun v s y wr => ∃ k : Nat, T ≤ k ∧ k ≤ T + bh ∧ y = .int .i64 k ∧ s = .int .i64 (sumN (bxL X Y V L T f bw k L)) ∧ Hid (GathR wa v (bxL X Y V L T f bw k L) wr)) (fun _ _ y _ => T + bh - (intOf y).toNat)
  case atStart => exact ⟨T, Nat.le_refl _, Nat.le_add_right _ _, rfl, by rw [HS0.out]; rfl, Lib.hid (by rw [HS0.out]; exact GathR.nil wa)⟩
  case round =>
    obtain ⟨y, hy1, hy2, rfl, rfl, hG⟩ := hrel
    obtain ⟨⟨k0, k2⟩, ⟨q0, q2, q3⟩, q6, q7⟩ := HS.out wr hG.out.2
    by_cases hyt : y < T + bh
    · have hyO : y ≤ O := by have := HN.out; omega
      have hyb : y ≤ 65536 := by have := HN.out; omega
      have hJ : (y : Int) * (V : Int) = ((y * V : Nat) : Int) := by push_cast; rfl
      have HIXy := Lib.hid (fun x h2 h3 => HIX.out y x hy1 h2 h3 hyt)
      have HSTy := Lib.hid (fun x h2 => HST.out y x hy1 h2)
      have HSMy := Lib.hid (fun x h2 h3 => HSM.out y x hy1 h2 h3 (Or.inl hyt))
      have HROy := Lib.hid (HRO.out y hy1)
      generalize y * V = J at *
      go_wp2
      go_loopw [9, 10, 12] (fun v s x wr => ∃ k : Nat, L ≤ k ∧ k ≤ L + bw ∧ x = .int .i64 k ∧ s = .int .i64 (sumN (bxL X Y V L T f bw y k)) ∧ Hid (GathR wa v (bxL X Y V L T f bw y k) wr)) (fun _ _ x _ => L + bw - (intOf x).toNat)
      case atStart => exact ⟨L, Nat.le_refl _, Nat.le_add_right _ _, rfl, rfl, hG⟩
      case round =>
        clear hG k0 k2 q0 q2 q3 q6 q7
        obtain ⟨x, hx1, hx2, rfl, rfl, hG⟩ := hrel
        obtain ⟨⟨k0, k2⟩, ⟨q0, q2, q3⟩, q6, q7⟩ := HS.out wr hG.out.2
        by_cases hxt : x < L + bw
        · have hxR : x ≤ R := by have := HN.out; omega
          have hxb : x ≤ 65536 := by have := HN.out; omega
          have hKn := HIXy.out x hx1 hxt
          obtain ⟨ba, oa, rfl, hbal, ck⟩ := HA.out (J + x) hKn
          have ckr : wr.cell? ⟨ba, oa + (J + x), none⟩ = some (.int .i64 (f (J + x))) := by rw [(below_step HB.out hG.out.2).cell (p := ⟨ba, oa + (J + x), none⟩) hbal]; exact ck
          have hidx : (J : Int) + (x : Int) = ((J + x : Nat) : Int) := by push_cast; rfl
          have hfk := HC.out (J + x) hKn
          have hst := HSTy.out x hx1
          have hsm := (HSMy.out x hx1 hx2).1
          have hlen := (HSMy.out x hx1 hx2).2.2
          have hsa := sq_bd30 (A := 1024 * (x : Int) + 512 - X) (by omega) (by omega)
          have hsb := sq_bd30 (A := 1024 * (y : Int) + 512 - Y) (by omega) (by omega)
          unfold midF at hst
          have HST2 := Lib.hid hst
          clear hst ck HIXy
          generalize J + x = kx at *
          generalize bxL X Y V L T f bw y x = Lk at *
          go_wp2
          go_quiet (fail)
          have HG1 := Lib.hid (hG.out.below (below_drewN (Below.refl _ _) nq))
          clear hG k0 k2 q0 q2 q3 q6 q7 ckr hidx
          generalize 1024 * (x : Int) + 512 - X = A at *
          generalize 1024 * (y : Int) + 512 - Y = B at *
          generalize f kx = fx at *
          generalize wr.drewN nq = wd at *
          have hos := Lib.hid (fun o => World.ownsRow.alloc HG1.out.1 o)
          have hsz3 := HG1.out.2.size
          go_wp2_with (first
            | (at_builtin; refine wpList_append_own_at _ rfl _ _ 62 rfl wa.heap.size 64 i0 zero2 2 16 Tryz.underlying62 hi hz0 hz1 hz2 rfl (by decide) u9 Lk.length (encRs Lk) rfl (hos.out _) ⟨wd.heap.size, 0, none⟩ 1 1 (encR (A * A + B * B, fx)) rfl rfl (news2 _ _ _ _) (encR_cells _) ?c3 ?c4 ?c5 ?_)
            | fail)
          case c3 => unfold maxLen; omega
          case c4 => omega
          case c5 => simp; omega
          intro v' w4 hown hgrow _ _
          have R4 := Lib.hid (HG1.out.step hown hgrow)
          clear hown hgrow hos HG1
          go_wp2
          go_roundw
          case rel => exact ⟨x + 1, by omega, by omega, by go_num, by rw [HST2.out, sumN_one], Lib.hid (by rw [HST2.out]; exact R4.out)⟩
          case measure => simp [intOf]; omega
        · obtain rfl : x = L + bw := by omega
          have hxR : ¬ (L + bw ≤ R) := by have := HN.out; omega
          go_wp2
          go_roundw
          case rel => exact ⟨y + 1, by omega, by omega, by go_num, by rw [← HROy.out], Lib.hid (by rw [← HROy.out]; exact hG.out)⟩
          case measure => simp [intOf]; omega
    · obtain rfl : y = T + bh := by omega
      have hyO : ¬ (T + bh ≤ O) := by have := HN.out; omega
      have hsm := HSM.out (T + bh) L (by omega) (Nat.le_refl _) (by omega) (Or.inr ⟨rfl, rfl⟩)
      rw [HAL.out] at hsm ⊢
      obtain ⟨hsm1, _, hlen⟩ := hsm
      have hG2 : Hid (GathR wa u9 LL wr) := Lib.hid (by rw [← HAL.out]; exact hG.out)
      clear hG HAL HSM HIX HST HRO HS0 k0 k2 q0 q2 q6 q7 HC HA
      by_cases c0 : sumN LL = 0
      · have e8 : wr.cell? ⟨1, 0, none⟩ = some (.iface 230 (.pointer (some (ad 8)))) := (HE.out.below (below_step HB.out hG2.out.2)) 8 (by decide)
        have HR8 : Hid (widRes ad LL share (.returned (.tuple #[.int .i64 0, errV ad 8]))) := Lib.hid (Or.inl ⟨c0, rfl⟩)
        rw [c0]
        clear c0 hsm1
        go_wp2
        go_quiet (fail)
        go_wp2
        go_ret2
        exact ⟨HR8.out, below_drewN (below_step HB.out hG2.out.2) _⟩
      · have hpos : 0 < LL.length := List.length_pos_iff.2 HNE.out
        obtain ⟨gg, cc, rfl⟩ := Go.Joins.ownsRow_form hG2.out.1 hpos
        have hgl := hG2.out.1.lt _ rfl
        have HSo := Lib.hid (sortR_any LL gg cc (by omega) wr hgl.2 (own_rings hG2.out.1 rfl))
        have BG := Lib.hid (below_step HB.out hG2.out.2)
        have hwa := HB.out.size
        clear hG2
        go_wp2_with fail
        refine HSo.out.mono ?_; rintro e w5 ⟨rfl, d, hO, hP, hSo, hb5⟩
        have B5 := Lib.hid (BG.out.trans (hb5.mono (by omega)))
        have HRC := Lib.hid (fun k (hk : k < LL.length) W' (hb : Below w5.heap.size w5 W') => ring_cells (hO.below hb) hk)
        have HMD := Lib.hid (fun j (hj : j < LL.length) => HME.out (d j) (hP.mem_iff.2 (preD_mem.2 ⟨j, hj, rfl⟩)))
        have HPe := Lib.hid hP
        have HSS := Lib.hid hSo
        have HSP := Lib.hid (sumN_perm hP)
        clear hO hP hSo hb5 HSo BG HME
        have HNL : Hid (sumN LL ≠ 0) := Lib.hid c0
        have HFL : Hid (∀ v, LeastD (preD d LL.length) (Enough share (sumN LL) (preD d LL.length)) v → widRes ad LL share (.returned (.tuple #[.int .i64 v, .nilIface]))) := Lib.hid (fun v h => Or.inr ⟨HNL.out, v, rfl, LeastD.perm HPe.out.symm h⟩)
        have hpr : 0 ≤ share * sumN LL ∧ share * sumN LL ≤ 100 * (65535 * 65536) := ⟨Int.mul_nonneg (by omega) hsm1.1, Int.mul_le_mul s2 hsm1.2 hsm1.1 (by decide)⟩
        have HPL : Hid (share * sumN LL ≤ 100 * sumN LL) := Lib.hid (Int.mul_le_mul_of_nonneg_right s2 hsm1.1)
        generalize sumN LL = all at *
        generalize LL.length = N at *
        go_wp2
        go_loopw [16, 143] (fun s i wq => ∃ k : Nat, k ≤ N ∧ i = .int .i64 k ∧ s = .int .i64 (sumN (preD d k)) ∧ Hid (∀ j, j < k → EndD d N j → 100 * sumN (preD d (j + 1)) < share * all) ∧ Hid (Below w5.heap.size w5 wq)) (fun _ i _ => N - (intOf i).toNat)
        case atStart => exact ⟨0, Nat.zero_le _, rfl, rfl, Lib.hid (fun j hj => absurd hj (Nat.not_lt_zero _)), Lib.hid (Below.refl _ _)⟩
        case round =>
          clear c0
          obtain ⟨k, hk, rfl, rfl, hP, hB⟩ := hrel
          by_cases hlt : k < N
          · obtain ⟨c1, c2⟩ := HRC.out k hlt wr hB.out
            have hs1 := sumN_bd (A := preD d k) (c := 65535) (fun a ha => by obtain ⟨j, hj, rfl⟩ := preD_mem.1 ha; exact HMD.out j (by omega))
            have hl1 : (preD d k).length = k := by unfold preD; rw [List.length_map, List.length_range]
            rw [hl1] at hs1
            have hm2 := HMD.out k hlt
            have S1 := Lib.hid (sumN_preD (d := d) (i := k))
            clear hl1
            generalize hv1 : (d k).1 = v1 at *
            generalize (d k).2 = v2 at *
            generalize sumN (preD d k) = s0 at *
            have HV1 := Lib.hid hv1
            clear hv1
            go_wp2
            have hbx : (wr.alloc (.cells #[.int .i64 v1, .int .i64 v2] 64)).cell? ⟨wr.heap.size, 0, none⟩ = some (.int .i64 v1) := by simp
            have HBn := Lib.hid (hB.out.alloc hB.out.size (.cells #[.int .i64 v1, .int .i64 v2] 64))
            clear hB c1 c2
            generalize wr.alloc (.cells #[.int .i64 v1, .int .i64 v2] 64) = wb at *
            by_cases g1 : share * all ≤ (s0 + v2) * 100
            · have d1 : decide (share * all ≤ (s0 + v2) * 100) = true := decide_eq_true g1
              have HG1 : Hid (EndD d N k → widRes ad LL share (.returned (.tuple #[.int .i64 v1, .nilIface]))) := Lib.hid (fun he => HFL.out _ (by
                rw [← HV1.out]
                exact first_least HSS.out hlt he (by rw [S1.out]; omega) (fun j hj hej => Int.not_le.2 (hP.out j hj hej))))
              clear g1
              by_cases g2 : k + 1 = N
              · have d2 : ((k : Int) + 1 == (N : Int)) = true := by simp; omega
                have HL1 := Lib.hid (HG1.out (Or.inl g2))
                clear HG1 g2
                go_quiet (fail)
                go_wp2
                go_ret2
                exact ⟨HL1.out, below_drewN (B5.out.trans (HBn.out.mono B5.out.size)) _⟩
              · have hk1 : k + 1 < N := by omega
                have d2 : ((k : Int) + 1 == (N : Int)) = false := by simp; omega
                obtain ⟨c1, _⟩ := HRC.out (k + 1) hk1 wb HBn.out
                generalize hnx : (d (k + 1)).1 = nx at *
                by_cases g3 : v1 < nx
                · have d3 : decide (v1 < nx) = true := decide_eq_true g3
                  have HL1 := Lib.hid (HG1.out (Or.inr (by rw [hnx, HV1.out]; exact g3)))
                  clear HG1 g2 g3 hnx
                  go_quiet (fail)
                  go_wp2
                  go_ret2
                  exact ⟨HL1.out, below_drewN (B5.out.trans (HBn.out.mono B5.out.size)) _⟩
                · have d3 : decide (v1 < nx) = false := decide_eq_false g3
                  have HP2 : Hid (∀ j, j < k + 1 → EndD d N j → 100 * sumN (preD d (j + 1)) < share * all) := Lib.hid (fun j hj hej => by
                    by_cases e : j = k
                    · subst e
                      rcases hej with h | h
                      · exact absurd h g2
                      · rw [hnx, HV1.out] at h; exact absurd h g3
                    · exact hP.out j (by omega) hej)
                  clear HG1 g2 g3 hnx hP
                  go_quiet (fail)
                  go_wp2
                  go_roundw
                  case rel => exact ⟨k + 1, by omega, by go_num, by rw [S1.out], HP2, Lib.hid (below_drewN HBn.out _)⟩
                  case measure => simp [intOf]; omega
            · have d1 : decide (share * all ≤ (s0 + v2) * 100) = false := decide_eq_false g1
              have HP2 : Hid (∀ j, j < k + 1 → EndD d N j → 100 * sumN (preD d (j + 1)) < share * all) := Lib.hid (fun j hj hej => by
                by_cases e : j = k
                · subst e
                  rw [S1.out]
                  omega
                · exact hP.out j (by omega) hej)
              clear g1 hP
              go_quiet (fail)
              go_wp2
              go_roundw
              case rel => exact ⟨k + 1, by omega, by go_num, by rw [S1.out], HP2, Lib.hid (below_drewN HBn.out _)⟩
              case measure => simp [intOf]; omega
          · exfalso
            obtain rfl : k = N := by omega
            obtain ⟨m, rfl⟩ : ∃ m, k = m + 1 := ⟨k - 1, by omega⟩
            have h1 := hP.out m (by omega) (Or.inl rfl)
            have h2 := HPL.out
            rw [← HSP.out] at h1
            omega
end Go.Proofs.YthbekddpnkammaaGreatDoor

namespace Go.Proofs.YthbekddpnkammaaGreatDoor
open Go.RowKit

/-- What ReachOf answers at a box. -/
def reaRes (A : List (Int × Int)) (share : Int) (e : Ending) : Prop :=
  (sumN A = 0 ∧ e = .returned (.tuple #[.int .i64 0, .int .i64 9])) ∨ (sumN A ≠ 0 ∧ ∃ v, e = .returned (.tuple #[.int .i64 v, .int .i64 0]) ∧ LeastD A (Enough share (sumN A) A) v)
set_option maxRecDepth 10000 in
set_option maxHeartbeats 16000000 in
theorem reach_okI (V K : Nat) (W H sL sT sR sO : Int) (L R T O bw bh : Nat) (P I X Y S share : Int) (f : Nat → Int) (b o : Nat) (a : Option Addr) (n cap : Nat) (w : World) (hp : PicAt w b o W H a n cap f) (g : picG W H n f)
    (eW : W = V) (eH : H = K) (eL : sL = L) (eR : sR = R) (eT : sT = T) (eO : sO = O) (s1 : 1 ≤ share) (s2 : share ≤ 100) (hR : R + 1 = L + bw) (hO : O + 1 = T + bh) (hB : InBox V K n L T bw bh) (X0 : -268435456 ≤ X) (X1 : X ≤ 268435456) (Y0 : -268435456 ≤ Y) (Y1 : Y ≤ 268435456) :
    Calls Tryz.prog 10 #[.pointer (some ⟨b, o, none⟩), aggSp ⟨sL, sT, sR, sO, P, I, X, Y, S⟩, .int .i64 share] w fun e w' =>
      reaRes (boxP (ringG X Y V L T f) bw bh 0) share e ∧ Below w.heap.size w w' := by
  have hb0 : ∀ o', Below w.heap.size w (w.alloc o') := fun o' => (Below.refl _ _).alloc (Nat.le_refl _) _
  have HV := Lib.hid (fun o' => picE_ok b o W H f a n cap (w.alloc o') (hp.below (hb0 o')) g)
  have HB0 := Lib.hid hb0
  have HFx := Lib.hid (farR_any X)
  have HFy := Lib.hid (farR_any Y)
  have HPi := Lib.hid hp
  have HA := Lib.hid (fun j (hj : j < n) => hp.2.2.2.at hj)
  have HC := Lib.hid g.2.2.2.2.2
  have n2 := (area_bd g).2
  have ex : (decide (268435456 < X) || decide (X < -268435456)) = false := by simp; omega
  have ey : (decide (268435456 < Y) || decide (Y < -268435456)) = false := by simp; omega
  rw [ex] at HFx
  rw [ey] at HFy
  clear ex ey
  have hbw := hB.some.1
  have hbh := hB.some.2
  have hV := hB.wide
  have hK := hB.high
  have hLV := hB.right
  have hTK := hB.low
  have HMd := Lib.hid (fun x y x0 x1 y0 y1 W2 => fromMiddle_any x y X Y S x0 x1 y0 y1 X0 X1 Y0 Y1 W2)
  have HMb := Lib.hid (fun x y x0 x1 y0 y1 => midF_bd (x := x) (y := y) x0 x1 y0 y1 X0 X1 Y0 Y1)
  have HSM := Lib.hid (fun y x h1 h2 h3 h4 => bxL_sums hB g.2.2.2.2.2 X0 X1 Y0 Y1 (y := y) (x := x) h1 h2 h3 h4)
  have HIX := Lib.hid (fun y x h1 h2 h3 h4 => bxL_at hB (y := y) (x := x) h1 h2 h3 h4)
  have HST := Lib.hid (fun y x (h1 : T ≤ y) (h2 : L ≤ x) => bxL_step X Y V f bw h1 h2)
  have HRO := Lib.hid (fun y (h1 : T ≤ y) => bxL_row X Y V (L := L) f bw h1)
  have HAL := Lib.hid (bxL_all X Y V L T f bw bh)
  have HS0 := Lib.hid (bxL_start X Y V L T f bw)
  have HES := Lib.hid (enough_some (share := share) (box_ne hB (ringG X Y V L T f)) (fun a ha => (hB.mem g.2.2.2.2.2 X0 X1 Y0 Y1 (Or.inr ⟨rfl, rfl⟩) (Nat.zero_le _) ha).2.1) s2)
  have d0 : decide (0 ≤ sL) = true := by simp; omega
  have d1 : decide (sL ≤ sR) = true := by simp; omega
  have d2 : decide (sR < W) = true := by simp; omega
  have d3 : decide (0 ≤ sT) = true := by simp; omega
  have d4 : decide (sT ≤ sO) = true := by simp; omega
  have d5 : decide (share < 1) = false := by simp; omega
  have d6 : decide (100 < share) = false := by simp; omega
  have d7 : decide (H ≤ sO) = false := by simp; omega
  have HQ := Lib.hid (show W = V ∧ H = K ∧ sL = L ∧ sR = R ∧ sT = T ∧ sO = O from ⟨eW, eH, eL, eR, eT, eO⟩)
  have HN := Lib.hid (show (R + 1 = L + bw ∧ O + 1 = T + bh) ∧ (1 ≤ bw ∧ 1 ≤ bh) ∧ (1 ≤ V ∧ V ≤ 256) ∧ (1 ≤ K ∧ K ≤ 256) ∧ L + bw ≤ V ∧ T + bh ≤ K from ⟨⟨hR, hO⟩, ⟨hbw, hbh⟩, hV, hK, hLV, hTK⟩)
  generalize boxP (ringG X Y V L T f) bw bh 0 = LL at *
  clear hp g hB hb0 eW eH eL eR eT eO hR hO hbw hbh hV hK hLV hTK
  unfold aggSp
  go_enter Tryz.func10, Tryz.ntmps10
  go_wp2_with fail
  refine (HV.out _).mono ?_; rintro e wa ⟨rfl, hb1⟩
  obtain ⟨q0, q1, q2, q3, q6, q7, q8⟩ := reach_box hb1
  have HB := Lib.hid (below_step (HB0.out _) hb1)
  have hq := HPi.out.below HB.out
  have k0 := hq.1
  have k1 := hq.2.1
  have k2 := hq.2.2.1
  have hsz : w.heap.size < wa.heap.size := cell_lt q0
  clear hb1 HV hq
  go_wp2_with fail
  refine (HFx.out _).mono ?_; rintro e w2 ⟨rfl, rfl⟩
  go_wp2_with fail
  refine (HFy.out _).mono ?_; rintro e w2 ⟨rfl, rfl⟩
  clear HFx HFy
  have HS : Hid (∀ W', Below wa.heap.size wa W' → (W'.cell? ⟨b, o, none⟩ = some (.int .i64 W) ∧ W'.cell? ⟨b, o + 1, none⟩ = some (.int .i64 H) ∧ W'.cell? ⟨b, o + 2, none⟩ = some (.slice a n cap)) ∧ (W'.cell? ⟨w.heap.size, 0, none⟩ = some (.int .i64 sL) ∧ W'.cell? ⟨w.heap.size, 1, none⟩ = some (.int .i64 sT) ∧ W'.cell? ⟨w.heap.size, 2, none⟩ = some (.int .i64 sR) ∧ W'.cell? ⟨w.heap.size, 3, none⟩ = some (.int .i64 sO)) ∧ W'.cell? ⟨w.heap.size, 6, none⟩ = some (.int .i64 X) ∧ W'.cell? ⟨w.heap.size, 7, none⟩ = some (.int .i64 Y) ∧ W'.cell? ⟨w.heap.size, 8, none⟩ = some (.int .i64 S)) := Lib.hid (fun W' hb => by
    have hq := HPi.out.below (below_step HB.out hb)
    exact ⟨⟨hq.1, hq.2.1, hq.2.2.1⟩, ⟨by rw [hb.cell (p := ⟨w.heap.size, 0, none⟩) hsz]; exact q0, by rw [hb.cell (p := ⟨w.heap.size, 1, none⟩) hsz]; exact q1, by rw [hb.cell (p := ⟨w.heap.size, 2, none⟩) hsz]; exact q2, by rw [hb.cell (p := ⟨w.heap.size, 3, none⟩) hsz]; exact q3⟩, by rw [hb.cell (p := ⟨w.heap.size, 6, none⟩) hsz]; exact q6, by rw [hb.cell (p := ⟨w.heap.size, 7, none⟩) hsz]; exact q7, by rw [hb.cell (p := ⟨w.heap.size, 8, none⟩) hsz]; exact q8⟩)
  go_wp2
  go_quiet (fail)
  have HBb := Lib.hid (below_drewN (Below.refl wa.heap.size wa) nq)
  clear k0 k1 k2 q0 q1 q2 q3 q6 q7 q8
  obtain ⟨⟨k0, k1, k2⟩, ⟨q0, q1, q2, q3⟩, q6, q7, q8⟩ := HS.out _ HBb.out
  generalize wa.drewN nq = wb at *
  go_wp2
  go_quiet (fail)
  have HBc := Lib.hid (below_drewN HBb.out nq)
  clear HBb k0 k1 k2 q0 q1 q2 q3 q6 q7 q8 d0 d1 d2 d3 d4 d5 d6 d7
  obtain ⟨⟨k0, k1, k2⟩, ⟨q0, q1, q2, q3⟩, q6, q7, q8⟩ := HS.out _ HBc.out
  generalize wb.drewN nq = wc at *
  go_wp2
  clear k0 k1 k2 q0 q1 q2 q3 q6 q7 q8
  obtain ⟨eW, eH, eL, eR, eT, eO⟩ := HQ.out
  clear HQ
  subst eW eH eL eR eT eO
  go_loopw [12, 13] (fun s y wr => ∃ k : Nat, T ≤ k ∧ k ≤ T + bh ∧ y = .int .i64 k ∧ s = .int .i64 (sumN (bxL X Y V L T f bw k L)) ∧ Hid (Below wa.heap.size wa wr)) (fun _ y _ => T + bh - (intOf y).toNat)
  case atStart => exact ⟨T, Nat.le_refl _, Nat.le_add_right _ _, rfl, by rw [HS0.out]; rfl, HBc⟩
  case round =>
    obtain ⟨y, hy1, hy2, rfl, rfl, hG⟩ := hrel
    obtain ⟨⟨k0, k1, k2⟩, ⟨q0, q1, q2, q3⟩, q6, q7, q8⟩ := HS.out wr hG.out
    by_cases hyt : y < T + bh
    · have hyO : y ≤ O := by have := HN.out; omega
      have hyb : y ≤ 65536 := by have := HN.out; omega
      have hJ : (y : Int) * (V : Int) = ((y * V : Nat) : Int) := by push_cast; rfl
      have HIXy := Lib.hid (fun x h2 h3 => HIX.out y x hy1 h2 h3 hyt)
      have HSTy := Lib.hid (fun x h2 => HST.out y x hy1 h2)
      have HSMy := Lib.hid (fun x h2 h3 => HSM.out y x hy1 h2 h3 (Or.inl hyt))
      have HROy := Lib.hid (HRO.out y hy1)
      generalize y * V = J at *
      go_wp2
      go_loopw [12, 14] (fun s x wr => ∃ k : Nat, L ≤ k ∧ k ≤ L + bw ∧ x = .int .i64 k ∧ s = .int .i64 (sumN (bxL X Y V L T f bw y k)) ∧ Hid (Below wa.heap.size wa wr)) (fun _ x _ => L + bw - (intOf x).toNat)
      case atStart => exact ⟨L, Nat.le_refl _, Nat.le_add_right _ _, rfl, rfl, hG⟩
      case round =>
        clear hG k0 k1 k2 q0 q1 q2 q3 q6 q7 q8
        obtain ⟨x, hx1, hx2, rfl, rfl, hG⟩ := hrel
        obtain ⟨⟨k0, k1, k2⟩, ⟨q0, q1, q2, q3⟩, q6, q7, q8⟩ := HS.out wr hG.out
        by_cases hxt : x < L + bw
        · have hxR : x ≤ R := by have := HN.out; omega
          have hxb : x ≤ 65536 := by have := HN.out; omega
          have hKn := HIXy.out x hx1 hxt
          obtain ⟨ba, oa, rfl, hbal, ck⟩ := HA.out (J + x) hKn
          have ckr : wr.cell? ⟨ba, oa + (J + x), none⟩ = some (.int .i64 (f (J + x))) := by rw [(below_step HB.out hG.out).cell (p := ⟨ba, oa + (J + x), none⟩) hbal]; exact ck
          have hidx : (J : Int) + (x : Int) = ((J + x : Nat) : Int) := by push_cast; rfl
          have hfk := HC.out (J + x) hKn
          have hst := HSTy.out x hx1
          have hsm := (HSMy.out x hx1 hx2).1
          have HST2 := Lib.hid hst
          clear hst ck HIXy
          generalize J + x = kx at *
          generalize bxL X Y V L T f bw y x = Lk at *
          have ew0 : IntKind.i64.wrap (J : Int) = (J : Int) := IntWalk.i64_in _ (by omega)
          have ew1 : IntKind.i64.wrap ((y : Int) * (V : Int)) = (J : Int) := by rw [hJ]; exact ew0
          have ew3 : IntKind.i64.wrap (kx : Int) = (kx : Int) := IntWalk.i64_in _ (by omega)
          have ew2 : IntKind.i64.wrap ((J : Int) + (x : Int)) = (kx : Int) := by rw [hidx]; exact ew3
          have r0 : (0 : Int) ≤ (kx : Int) := by omega
          have r1 : (kx : Int) < (n : Int) := by omega
          have r4 : ((kx : Int)).toNat = kx := by omega
          generalize f kx = fx at *
          go_wp2
          go_quiet (fail)
          have HG1 := Lib.hid (below_drewN hG.out nq)
          go_wp2
          go_roundw
          case rel => exact ⟨x + 1, by omega, by omega, by go_num, by rw [HST2.out, sumN_one], HG1⟩
          case measure => simp [intOf]; omega
        · obtain rfl : x = L + bw := by omega
          have hxR : ¬ (L + bw ≤ R) := by have := HN.out; omega
          go_wp2
          go_roundw
          case rel => exact ⟨y + 1, by omega, by omega, by go_num, by rw [← HROy.out], hG⟩
          case measure => simp [intOf]; omega
    · have ey : y = T + bh := by omega
      have hyO : ¬ (y ≤ O) := by have := HN.out; omega
      have hsm := (HSM.out (T + bh) L (by omega) (Nat.le_refl _) (by omega) (Or.inr ⟨rfl, rfl⟩)).1
      have e1 : bxL X Y V L T f bw y L = LL := by rw [ey]; exact HAL.out
      rw [HAL.out] at hsm
      rw [e1]
      clear ey e1 hy1 hy2 hyt
      by_cases c0 : sumN LL = 0
      · have HR8 : Hid (reaRes LL share (.returned (.tuple #[.int .i64 0, .int .i64 9]))) := Lib.hid (Or.inl ⟨c0, rfl⟩)
        rw [c0]
        clear c0 hsm
        go_wp2
        go_ret2
        exact ⟨HR8.out, below_step HB.out hG.out⟩
      · have hpr : 0 ≤ share * sumN LL ∧ share * sumN LL ≤ 100 * (65535 * 65536) := ⟨Int.mul_nonneg (by omega) hsm.1, Int.mul_le_mul s2 hsm.2 hsm.1 (by decide)⟩
        have HNL := Lib.hid c0
        have HWR : Hid (∀ v, LeastD LL (Enough share (sumN LL) LL) v → reaRes LL share (.returned (.tuple #[.int .i64 v, .int .i64 0]))) := Lib.hid (fun v h => Or.inr ⟨HNL.out, v, rfl, h⟩)
        have c1 : (sumN LL == 0) = false := by simpa using c0
        clear c0
        generalize sumN LL = all at *
        go_wp2
        clear k0 k1 k2 q0 q1 q2 q3 q6 q7 q8 c1
        go_loopw [15, 16] (fun z y wr => ∃ (k : Nat) (v : Int), T ≤ k ∧ k ≤ T + bh ∧ y = .int .i64 k ∧ z = .int .i64 v ∧ Hid (BestD (bxL X Y V L T f bw k L) (Enough share all LL) v) ∧ Hid (Below wa.heap.size wa wr)) (fun _ y _ => T + bh - (intOf y).toNat)
        case atStart => exact ⟨T, -1, Nat.le_refl _, Nat.le_add_right _ _, rfl, rfl, Lib.hid (by rw [HS0.out]; exact BestD.nil _), hG⟩
        case round =>
          clear hG
          obtain ⟨y, best, hy1, hy2, rfl, rfl, hD, hG⟩ := hrel
          obtain ⟨⟨k0, k1, k2⟩, ⟨q0, q1, q2, q3⟩, q6, q7, q8⟩ := HS.out wr hG.out
          by_cases hyt : y < T + bh
          · have hyO : y ≤ O := by have := HN.out; omega
            have hyb : y ≤ 65536 := by have := HN.out; omega
            have HSTy := Lib.hid (fun x h2 => HST.out y x hy1 h2)
            have HROy := Lib.hid (HRO.out y hy1)
            go_wp2
            go_loopw [15, 17] (fun z x wr => ∃ (k : Nat) (v : Int), L ≤ k ∧ k ≤ L + bw ∧ x = .int .i64 k ∧ z = .int .i64 v ∧ Hid (BestD (bxL X Y V L T f bw y k) (Enough share all LL) v) ∧ Hid (Below wa.heap.size wa wr)) (fun _ x _ => L + bw - (intOf x).toNat)
            case atStart => exact ⟨L, best, Nat.le_refl _, Nat.le_add_right _ _, rfl, rfl, hD, hG⟩
            case round =>
              clear hG hD k0 k1 k2 q0 q1 q2 q3 q6 q7 q8
              obtain ⟨x, best, hx1, hx2, rfl, rfl, hD, hG⟩ := hrel
              obtain ⟨⟨k0, k1, k2⟩, ⟨q0, q1, q2, q3⟩, q6, q7, q8⟩ := HS.out wr hG.out
              by_cases hxt : x < L + bw
              · have hxR : x ≤ R := by have := HN.out; omega
                have hxb : x ≤ 65536 := by have := HN.out; omega
                have HMk := Lib.hid (fun W2 => HMd.out (x : Int) (y : Int) (by omega) (by omega) (by omega) (by omega) W2)
                have hmb := HMb.out (x : Int) (y : Int) (by omega) (by omega) (by omega) (by omega)
                have HSK := Lib.hid (fun h0 h1 => by rw [HSTy.out x hx1]; exact hD.out.skip (a := (midF X Y x y, f (y * V + x))) h0 h1 : 0 ≤ best → best ≤ midF X Y x y → BestD (bxL X Y V L T f bw y (x + 1)) (Enough share all LL) best)
                have HTK := Lib.hid (fun hn hc => by rw [HSTy.out x hx1]; exact hD.out.take (a := (midF X Y x y, f (y * V + x))) hn hmb.1 hc : ¬ (0 ≤ best ∧ best ≤ midF X Y x y) → Enough share all LL (midF X Y x y) → BestD (bxL X Y V L T f bw y (x + 1)) (Enough share all LL) (midF X Y x y))
                have HPS := Lib.hid (fun hc => by rw [HSTy.out x hx1]; exact hD.out.pass (a := (midF X Y x y, f (y * V + x))) hc : ¬ Enough share all LL (midF X Y x y) → BestD (bxL X Y V L T f bw y (x + 1)) (Enough share all LL) best)
                clear hD
                generalize midF X Y x y = m at *
                go_wp2_with fail
                refine (HMk.out _).mono ?_; rintro e w3 ⟨rfl, hb3⟩
                have HG3 := Lib.hid (below_step hG.out hb3)
                clear hb3 hG HMk k0 k1 k2 q0 q1 q2 q3 q6 q7 q8
                obtain ⟨⟨k0, k1, k2⟩, ⟨q0, q1, q2, q3⟩, q6, q7, q8⟩ := HS.out w3 HG3.out
                by_cases g1 : 0 ≤ best ∧ best ≤ m
                · have d1 : decide (0 ≤ best) = true := decide_eq_true g1.1
                  have d2 : decide (best ≤ m) = true := decide_eq_true g1.2
                  have HR := Lib.hid (HSK.out g1.1 g1.2)
                  clear g1
                  go_wp2
                  go_roundw
                  case rel => exact ⟨x + 1, best, by omega, by omega, by go_num, rfl, HR, HG3⟩
                  case measure => simp [intOf]; omega
                · have HTK2 := Lib.hid (HTK.out g1)
                  have hcase : decide (0 ≤ best) = false ∨ (decide (0 ≤ best) = true ∧ decide (best ≤ m) = false) := by
                    by_cases h : 0 ≤ best
                    · exact Or.inr ⟨decide_eq_true h, decide_eq_false (fun h2 => g1 ⟨h, h2⟩)⟩
                    · exact Or.inl (decide_eq_false h)
                  clear g1 HTK HSK
                  rcases hcase with d1 | ⟨d1, d2⟩
                  all_goals
                    go_wp2
                    clear k0 k1 k2 q0 q1 q2 q3 q6 q7 q8
                    go_loopw [19, 20] (fun s v wr => ∃ k : Nat, T ≤ k ∧ k ≤ T + bh ∧ v = .int .i64 k ∧ s = .int .i64 (sumLe m (bxL X Y V L T f bw k L)) ∧ Hid (Below wa.heap.size wa wr)) (fun _ v _ => T + bh - (intOf v).toNat)
                    case atStart => exact ⟨T, Nat.le_refl _, Nat.le_add_right _ _, rfl, by rw [HS0.out]; rfl, HG3⟩
                    case round =>
                      clear HG3
                      obtain ⟨v, hv1, hv2, rfl, rfl, hG⟩ := hrel
                      obtain ⟨⟨k0, k1, k2⟩, ⟨q0, q1, q2, q3⟩, q6, q7, q8⟩ := HS.out wr hG.out
                      by_cases hvt : v < T + bh
                      · have hvO : v ≤ O := by have := HN.out; omega
                        have hvb : v ≤ 65536 := by have := HN.out; omega
                        have hJ : (v : Int) * (V : Int) = ((v * V : Nat) : Int) := by push_cast; rfl
                        have HIXv := Lib.hid (fun u h2 h3 => HIX.out v u hv1 h2 h3 hvt)
                        have HSTv := Lib.hid (fun u h2 => HST.out v u hv1 h2)
                        have HSMv := Lib.hid (fun u h2 h3 => HSM.out v u hv1 h2 h3 (Or.inl hvt))
                        have HROv := Lib.hid (HRO.out v hv1)
                        generalize v * V = J at *
                        go_wp2
                        go_loopw [19, 21] (fun s u wr => ∃ k : Nat, L ≤ k ∧ k ≤ L + bw ∧ u = .int .i64 k ∧ s = .int .i64 (sumLe m (bxL X Y V L T f bw v k)) ∧ Hid (Below wa.heap.size wa wr)) (fun _ u _ => L + bw - (intOf u).toNat)
                        case atStart => exact ⟨L, Nat.le_refl _, Nat.le_add_right _ _, rfl, rfl, hG⟩
                        case round =>
                          clear hG k0 k1 k2 q0 q1 q2 q3 q6 q7 q8
                          obtain ⟨u, hu1, hu2, rfl, rfl, hG⟩ := hrel
                          obtain ⟨⟨k0, k1, k2⟩, ⟨q0, q1, q2, q3⟩, q6, q7, q8⟩ := HS.out wr hG.out
                          by_cases hut : u < L + bw
                          · have huR : u ≤ R := by have := HN.out; omega
                            have hub : u ≤ 65536 := by have := HN.out; omega
                            have HMu := Lib.hid (fun W2 => HMd.out (u : Int) (v : Int) (by omega) (by omega) (by omega) (by omega) W2)
                            have hKn := HIXv.out u hu1 hut
                            have HST2 := Lib.hid (HSTv.out u hu1)
                            have hsm2 := (HSMv.out u hu1 hu2).2.1 m
                            obtain ⟨ba, oa, rfl, hbal, ck⟩ := HA.out (J + u) hKn
                            have hidx : (J : Int) + (u : Int) = ((J + u : Nat) : Int) := by push_cast; rfl
                            have hfk := HC.out (J + u) hKn
                            clear HIXv
                            generalize J + u = kx at *
                            generalize bxL X Y V L T f bw v u = Lk at *
                            generalize midF X Y u v = m2 at *
                            go_wp2_with fail
                            refine (HMu.out _).mono ?_; rintro e w4 ⟨rfl, hb4⟩
                            have HG4 := Lib.hid (below_step hG.out hb4)
                            clear hb4 hG HMu k0 k1 k2 q0 q1 q2 q3 q6 q7 q8
                            obtain ⟨⟨k0, k1, k2⟩, ⟨q0, q1, q2, q3⟩, q6, q7, q8⟩ := HS.out w4 HG4.out
                            have ckr : w4.cell? ⟨ba, oa + kx, none⟩ = some (.int .i64 (f kx)) := by rw [(below_step HB.out HG4.out).cell (p := ⟨ba, oa + kx, none⟩) hbal]; exact ck
                            clear ck
                            by_cases g2 : m2 ≤ m
                            · have HST3 : Hid (sumLe m (bxL X Y V L T f bw v (u + 1)) = sumLe m Lk + f kx) := Lib.hid (by rw [HST2.out, sumLe_one, if_pos g2])
                              have d3 : decide (m2 ≤ m) = true := decide_eq_true g2
                              clear g2 HST2
                              have ew0 : IntKind.i64.wrap (J : Int) = (J : Int) := IntWalk.i64_in _ (by omega)
                              have ew1 : IntKind.i64.wrap ((v : Int) * (V : Int)) = (J : Int) := by rw [hJ]; exact ew0
                              have ew3 : IntKind.i64.wrap (kx : Int) = (kx : Int) := IntWalk.i64_in _ (by omega)
                              have ew2 : IntKind.i64.wrap ((J : Int) + (u : Int)) = (kx : Int) := by rw [hidx]; exact ew3
                              have r0 : (0 : Int) ≤ (kx : Int) := by omega
                              have r1 : (kx : Int) < (n : Int) := by omega
                              have r4 : ((kx : Int)).toNat = kx := by omega
                              generalize f kx = fx at *
                              generalize sumLe m Lk = s0 at *
                              go_wp2
                              go_quiet (fail)
                              have HG5 := Lib.hid (below_drewN HG4.out nq)
                              go_wp2
                              go_roundw
                              case rel => exact ⟨u + 1, by omega, by omega, by go_num, by rw [HST3.out], HG5⟩
                              case measure => simp [intOf]; omega
                            · have HST3 : Hid (sumLe m (bxL X Y V L T f bw v (u + 1)) = sumLe m Lk) := Lib.hid (by rw [HST2.out, sumLe_one, if_neg g2, Int.add_zero])
                              have d3 : decide (m2 ≤ m) = false := decide_eq_false g2
                              clear g2 HST2
                              go_wp2
                              go_roundw
                              case rel => exact ⟨u + 1, by omega, by omega, by go_num, by rw [HST3.out], HG4⟩
                              case measure => simp [intOf]; omega
                          · obtain rfl : u = L + bw := by omega
                            have huR : ¬ (L + bw ≤ R) := by have := HN.out; omega
                            go_wp2
                            go_roundw
                            case rel => exact ⟨v + 1, by omega, by omega, by go_num, by rw [← HROv.out], hG⟩
                            case measure => simp [intOf]; omega
                      · obtain rfl : v = T + bh := by omega
                        have hvO : ¬ (T + bh ≤ O) := by have := HN.out; omega
                        have hsm2 := (HSM.out (T + bh) L (by omega) (Nat.le_refl _) (by omega) (Or.inr ⟨rfl, rfl⟩)).2.1 m
                        rw [HAL.out] at hsm2 ⊢
                        by_cases g3 : share * all ≤ 100 * sumLe m LL
                        · have d3 : decide (share * all ≤ 100 * sumLe m LL) = true := decide_eq_true g3
                          have HR := Lib.hid (HTK2.out g3)
                          clear g3
                          generalize sumLe m LL = s0 at *
                          go_wp2
                          go_roundw
                          case rel => exact ⟨x + 1, m, by omega, by omega, by go_num, rfl, HR, hG⟩
                          case measure => simp [intOf]; omega
                        · have d3 : decide (share * all ≤ 100 * sumLe m LL) = false := decide_eq_false g3
                          have HR := Lib.hid (HPS.out g3)
                          clear g3
                          generalize sumLe m LL = s0 at *
                          go_wp2
                          go_roundw
                          case rel => exact ⟨x + 1, best, by omega, by omega, by go_num, rfl, HR, hG⟩
                          case measure => simp [intOf]; omega
              · obtain rfl : x = L + bw := by omega
                have hxR : ¬ (L + bw ≤ R) := by have := HN.out; omega
                go_wp2
                go_roundw
                case rel => exact ⟨y + 1, best, by omega, by omega, by go_num, rfl, Lib.hid (by rw [← HROy.out]; exact hD.out), hG⟩
                case measure => simp [intOf]; omega
          · obtain rfl : y = T + bh := by omega
            have hyO : ¬ (T + bh ≤ O) := by have := HN.out; omega
            have HR := Lib.hid (HWR.out best (by have h := hD.out; rw [HAL.out] at h; exact h.done HES.out))
            clear hD
            go_wp2
            go_ret2
            exact ⟨HR.out, below_step HB.out hG.out⟩
end Go.Proofs.YthbekddpnkammaaGreatDoor
