/- The law LightPowers, where all is fine. -/
import Derived.Test.YtbafddlkeocpeaaGreatDoorPwL
import Derived.Deep.CutBlock
import Derived.Deep.DeepCutAuto
namespace Go.Proofs.YtbafddlkeocpeaaGreatDoor
open Go.RowKit Ieee

theorem power_two (f : Nat → Int) (l : Nat → Nat) (n : Nat) (wv : Int) (at' al : Option Addr) (ct cl : Nat) (hn : n ≤ 1000000) (hw : In64 wv) (hf : ∀ j, j < n → ¬ Far (f j)) (w : World)
    (hT : IRow w at' n f) (hL : FRow w al n l) :
    Calls Tryz.prog 8 #[.slice at' n ct, .slice al n cl, .int .i64 wv] w fun e w' => ∃ r, e = .returned (.float .f64 r) ∧ Sft (powO f l n wv) r ∧ Below w.heap.size w w' :=
  powerAt_any f l n wv at' al ct cl hn hw (fun j hj => by have h := hf j hj; unfold Far at h; omega) w hT hL

set_option maxHeartbeats 8000000 in
set_option maxRecDepth 20000 in
theorem law_ok (f : Nat → Int) (l : Nat → Nat) (n K : Nat) (step frm : Int) (at' al : Option Addr) (ct cl : Nat) (hn0 : n ≠ 0) (hn : n ≤ 60) (hK0 : 1 ≤ K) (hK : K ≤ 40) (hs : ¬ Far step) (hfr : ¬ Far frm) (hf : ∀ j, j < n → ¬ Far (f j)) (w : World) (hT : IRow w at' n f) (hL : FRow w al n l) :
    Calls Tryz.prog 3 #[.slice at' n ct, .slice al n cl, .int .i64 step, .int .i64 frm, .int .i64 (K : Int)] w fun e w' => e = .returned (.bool true) ∧ Below w.heap.size w w' := by
  have h9 := nine_eq
  have HP := Lib.hid (fun b1 b2 W h1 h2 => pre_any b1 b2 W h1 h2)
  have HK := Lib.hid (pre_cells w)
  have HB0 := Lib.hid (pre_below w)
  have L1 := Lib.hid (fun W => large_no step hs W)
  have L2 := Lib.hid (fun W => large_no frm hfr W)
  have HT := Lib.hid (fun W (hb : Below w.heap.size w W) => hT.below hb)
  have HL := Lib.hid (fun W (hb : Below w.heap.size w W) => hL.below hb)
  have LN := Lib.hid (fun j (hj : j < n) W => large_no (f j) (hf j hj) W)
  have HPW := Lib.hid (fun W h1 h2 => power_ok f l n K step frm at' al ct cl hn0 (by omega) hK0 (by omega) hs hfr hf W h1 h2)
  have HR := Lib.hid (fun wv (hw : In64 wv) W h1 h2 => power_two f l n wv at' al ct cl (by omega) hw hf W h1 h2)
  have hb1 : -1099511627776 ≤ step ∧ step ≤ 1099511627776 := by unfold Far at hs; omega
  have hb2 : -1099511627776 ≤ frm ∧ frm ≤ 1099511627776 := by unfold Far at hfr; omega
  have hj0 : ((n : Int) == 0) = false := by simp; omega
  clear hT hL hs hfr hf
  go_enter Tryz.func3, Tryz.ntmps3
  go_wp2_with fail
  refine (HP.out _ _ _ HK.out.1 HK.out.2).mono ?_; rintro e w1 ⟨b, o, c, rfl, hc, hb⟩
  have HB1 := Lib.hid (HB0.out.trans (hb.mono HB0.out.size))
  clear hb HP HK HB0
  go_wp2_with fail
  refine (HPW.out _ (HT.out _ HB1.out) (HL.out _ HB1.out)).mono ?_; rintro e w2 ⟨a, cx, x, rfl, hx, hp, hb⟩
  have HB2 := Lib.hid (HB1.out.trans (hb.mono HB1.out.size))
  have FX := Lib.hid hx
  have SX := Lib.hid hp
  clear hb HB1 HPW hc h9 hx hp
  go_wp2_with fail
  refine (L1.out _).mono ?_; rintro e w3 ⟨rfl, rfl⟩
  go_wp2_with fail
  refine (L2.out _).mono ?_; rintro e w4 ⟨rfl, rfl⟩
  clear L1 L2
  go_wp2
  go_loopw [14, 16] (fun v i wr => ∃ j : Nat, j ≤ n ∧ i = .int .i64 j ∧ v = .bool false ∧ wr = w4) (fun _ i _ => n - (intOf i).toNat)
  case atStart => exact ⟨0, Nat.zero_le _, rfl, rfl, rfl⟩
  case round =>
    obtain ⟨j, hj, rfl, rfl, rfl⟩ := hrel
    by_cases hlt : j < n
    · obtain ⟨ba, oa, rfl, _, c1⟩ := (HT.out wr HB2.out).at hlt
      have F := Lib.hid (fun W => LN.out j hlt W)
      go_wp2_with fail
      refine (F.out _).mono ?_; rintro e w5 ⟨rfl, rfl⟩
      go_wp2
      exact ⟨⟨j + 1, by omega, by simp, rfl, trivial⟩, by simp [intOf]; omega⟩
    · have hjn : j = n := by omega
      subst hjn
      clear LN
      go_wp2
      go_loopw [18, 19] (fun v i wx => ∃ k : Nat, k ≤ K ∧ i = .int .i64 k ∧ v = .int .i64 (bestI (bestL x k)) ∧ Hid (Below wr.heap.size wr wx)) (fun _ i _ => K - (intOf i).toNat)
      case atStart => exact ⟨0, Nat.zero_le _, rfl, rfl, Lib.hid (Below.refl _ _)⟩
      case round =>
        rename World => wx
        obtain ⟨k, hk, rfl, rfl, hW⟩ := hrel
        by_cases hlt2 : k < K
        · obtain ⟨bx, ox, rfl, hbx, cx0⟩ := FX.out.at hlt2
          have cxx : wx.cell? ⟨bx, ox + k, none⟩ = some (.float .f64 (x k)) := by rw [hW.out.cell (p := ⟨bx, ox + k, none⟩) hbx]; exact cx0
          have hbw : bx < wr.heap.size := hbx
          have hmb := mul_bd k step (by omega) hb1
          have SK := SX.out k hlt2
          obtain ⟨ks, hks⟩ : ∃ ks, ks = (k : Int) * step := ⟨_, rfl⟩
          have hks' : (k : Int) * step = ks := hks.symm
          rw [hks'] at hmb SK
          have SXk := Lib.hid SK
          have HW := Lib.hid (show In64 (frm + ks) by unfold In64; omega)
          have ew1 : IntKind.i64.wrap ks = ks := IntWalk.i64_in _ (by omega)
          have ew2 : IntKind.i64.wrap (frm + ks) = frm + ks := IntWalk.i64_in _ (by omega)
          clear hks SK
          have KC : Hid (∀ W W' : World, (W.cell? ⟨bx, ox + k, none⟩ = some (.float .f64 (x k)) ∧ Hid (Below wr.heap.size wr W)) → Below W.heap.size W W' → (W'.cell? ⟨bx, ox + k, none⟩ = some (.float .f64 (x k)) ∧ Hid (Below wr.heap.size wr W'))) := Lib.hid (fun W W' h hb => by
            have h2 := h.2.out.trans (hb.mono h.2.out.size)
            exact ⟨by rw [h2.cell (p := ⟨bx, ox + k, none⟩) hbw]; exact cx0, Lib.hid h2⟩)
          have KT : Hid (∀ W : World, (W.cell? ⟨bx, ox + k, none⟩ = some (.float .f64 (x k)) ∧ Hid (Below wr.heap.size wr W)) → Calls Tryz.prog 8 #[.slice at' j ct, .slice al j cl, .int .i64 (frm + ks)] W fun e w' => ∃ r, e = .returned (.float .f64 r) ∧ Sft (powO f l j (frm + ks)) r ∧ Below W.heap.size W w') := Lib.hid (fun W h => by
            have h2 := HB2.out.trans (h.2.out.mono HB2.out.size)
            exact HR.out (frm + ks) HW.out W (HT.out W h2) (HL.out W h2))
          have S0 : Hid (wx.drew.cell? ⟨bx, ox + k, none⟩ = some (.float .f64 (x k)) ∧ Hid (Below wr.heap.size wr wx.drew)) := Lib.hid ⟨cxx, Lib.hid hW.out.drew⟩
          clear cxx
          go_upto_region 29 with (fail)
          go_cut [20] (fun v wz => v = .bool true ∧ Hid (Below wr.heap.size wr wz))
          case first =>
            go_region_held (fun w' => w'.cell? ⟨bx, ox + k, none⟩ = some (.float .f64 (x k)) ∧ Hid (Below wr.heap.size wr w'))
              (first | (exact S0.out) | assumption)
              (first | (go_at_call 8; refine (KT.out _ ?_).mono ?_; assumption; rintro e w5 ⟨r, rfl, hr, hb5⟩; have s5 := KC.out _ _ (by assumption) hb5; have HSr := Lib.hid hr; clear hb5 hr) | (go_at_call 7; refine (same_any _ _ _ SXk.out HSr.out _).mono ?_; rintro e w6 ⟨rfl, hb6⟩; have s6 := KC.out _ _ (by assumption) hb6; clear hb6))
            all_goals
              go_wp2_with fail
              go_meet
              exact ⟨rfl, And.right (by assumption)⟩
          case rest =>
            rename World => wc
            obtain ⟨rfl, hZ⟩ := hcut
            have c1 : wc.cell? ⟨bx, ox + k, none⟩ = some (.float .f64 (x k)) := by rw [hZ.out.cell (p := ⟨bx, ox + k, none⟩) hbw]; exact cx0
            clear KC KT S0 SXk HW ew1 ew2 hmb hks' hW HR HT HL SX
            by_cases hq : FloatKind.f64.format.order (x k) (x k) = some .eq
            · cases hbk : bestL x k with
              | none =>
                have HB := Lib.hid (show bestL x (k + 1) = some k by rw [bestL, if_pos hq, hbk])
                clear hbk cx0
                rw [show bestI none = -1 from rfl]
                go_wp2
                go_quiet (fail)
                go_wp2
                exact ⟨⟨k + 1, by omega, by simp, by rw [HB.out]; rfl, Lib.hid (below_drewN hZ.out _)⟩, by simp [intOf]; omega⟩
              | some q =>
                have hql := bestL_lt x k q hbk
                have hq0 : decide ((q : Int) < 0) = false := by simp
                obtain ⟨b', o', e', _, c2⟩ := (FX.out.below hZ.out).at (show q < K by omega)
                cases e'
                by_cases hg : FloatKind.f64.format.order (x k) (x q) = some .gt
                · have HB := Lib.hid (show bestL x (k + 1) = some k by rw [bestL, if_pos hq, hbk]; simp only; rw [if_pos hg])
                  clear hbk cx0
                  rw [show bestI (some q) = (q : Int) from rfl]
                  go_wp2
                  go_quiet (fail)
                  go_wp2
                  exact ⟨⟨k + 1, by omega, by simp, by rw [HB.out]; rfl, Lib.hid (below_drewN hZ.out _)⟩, by simp [intOf]; omega⟩
                · have HB := Lib.hid (show bestL x (k + 1) = some q by rw [bestL, if_pos hq, hbk]; simp only; rw [if_neg hg])
                  have hg' : (FloatKind.f64.format.order (x k) (x q) == some Ordering.gt) = false := by simpa using hg
                  clear hbk cx0 hg
                  rw [show bestI (some q) = (q : Int) from rfl]
                  go_wp2
                  go_quiet (fail)
                  go_wp2
                  exact ⟨⟨k + 1, by omega, by simp, by rw [HB.out]; rfl, Lib.hid (below_drewN hZ.out _)⟩, by simp [intOf]; omega⟩
            · have HB := Lib.hid (show bestL x (k + 1) = bestL x k by rw [bestL, if_neg hq])
              have hq' : (FloatKind.f64.format.order (x k) (x k) == some Ordering.eq) = false := by simpa using hq
              generalize bestL x k = bk at *
              clear cx0 hq
              go_wp2
              go_quiet (fail)
              go_wp2
              exact ⟨⟨k + 1, by omega, by simp, by rw [HB.out], Lib.hid (below_drewN hZ.out _)⟩, by simp [intOf]; omega⟩
        · have hkK : k = K := by omega
          subst hkK
          have B := Lib.hid (best_any x k a cx (by omega) wx (FX.out.below hW.out))
          clear HR HT HL SX FX
          cases hbk : bestL x k with
          | none =>
            rw [hbk] at B
            clear hbk
            rw [show bestI none = -1 from rfl]
            go_wp2_with fail
            refine B.out.mono ?_; rintro e w7 ⟨rfl, rfl⟩
            go_wp2
            go_ret
            exact ⟨rfl, HB2.out.trans (hW.out.mono HB2.out.size)⟩
          | some q =>
            have hql := bestL_lt x k q hbk
            rw [hbk] at B
            clear hbk
            rw [show bestI (some q) = (q : Int) from rfl]
            go_wp2_with fail
            refine B.out.mono ?_; rintro e w7 ⟨rfl, rfl⟩
            go_wp2
            go_ret
            exact ⟨rfl, HB2.out.trans (hW.out.mono HB2.out.size)⟩
end Go.Proofs.YtbafddlkeocpeaaGreatDoor
