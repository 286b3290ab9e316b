/- What light's Power answers, where its arguments are fine. -/
import Derived.Test.YtbafddlkeocpeaaGreatDoorAng2
import Derived.Test.YtbafddlkeocpeaaGreatDoorPwF
import Derived.Deep.CutBlock
import Derived.Deep.DeepCutAuto
namespace Go.Proofs.YtbafddlkeocpeaaGreatDoor
open Go.RowKit Ieee

theorem run_caddS (a b c d : Nat) (w : World) : (binOp .add 37 (.complex .f64 a b) (.complex .f64 c d)).run Tryz.prog w =
    .ok (.complex .f64 (opR (double.add a c) a c w) (opR (double.add b d) b d (opW (double.add a c) w))) (opW (double.add b d) (opW (double.add a c) w)) := by
  have h1 : (Op.floatArith .add .f64 a c).run Tryz.prog w = .ok (.float .f64 (opR (double.add a c) a c w)) (opW (double.add a c) w) := by
    have h := run_addS a c w
    simpa [binOp] using h
  have h2 : (Op.floatArith .add .f64 b d).run Tryz.prog (opW (double.add a c) w) = .ok (.float .f64 (opR (double.add b d) b d (opW (double.add a c) w))) (opW (double.add b d) (opW (double.add a c) w)) := by
    have h := run_addS b d (opW (double.add a c) w)
    simpa [binOp] using h
  simp [binOp, Op.complexOp, Op.Complex.arith, h1, h2]

theorem ownsRow_below {w w' : World} {base : Nat} {e : TypeId} {size : Nat} {v : Value} {n : Nat} {xs : List Value} (h : w.ownsRow base e size v n xs) (hb : Below w.heap.size w w') : w'.ownsRow base e size v n xs := by
  obtain ⟨h1, h2⟩ := h
  refine ⟨h1, ?_⟩
  rcases h2 with h2 | ⟨g, cap, cur, hv, hg, hh, r⟩
  · exact Or.inl h2
  · exact Or.inr ⟨g, cap, cur, hv, hg, by rw [hb.block _ (heap_lt hh)]; exact hh, r⟩
theorem mul_bd (k : Nat) (s : Int) (hk : k ≤ 4000) (hs : -1099511627776 ≤ s ∧ s ≤ 1099511627776) : -4398046511104000 ≤ (k : Int) * s ∧ (k : Int) * s ≤ 4398046511104000 := by
  have h : ((k : Int) * s).natAbs ≤ 4000 * 1099511627776 := by
    rw [Int.natAbs_mul, Int.natAbs_natCast]
    exact Nat.mul_le_mul hk (by omega)
  omega
theorem info_fl : (Tryz.prog.info? 28).map (fun i => (i.zero, i.size, i.bytes)) = some (some (.float .f64 0), 1, 8) := by kernel_rfl

set_option maxHeartbeats 4000000 in
set_option maxRecDepth 20000 in
theorem power_ok (f : Nat → Int) (l : Nat → Nat) (n many : Nat) (step frm : Int) (at' al : Option Addr) (ct cl : Nat) (hn0 : n ≠ 0) (hn : n ≤ 4000) (hm0 : 1 ≤ many) (hm : many ≤ 4000) (hs : ¬ Far step) (hfr : ¬ Far frm) (hf : ∀ j, j < n → ¬ Far (f j)) (w : World)
    (hT : IRow w at' n f) (hL : FRow w al n l) :
    Calls Tryz.prog 4 #[.slice at' n ct, .slice al n cl, .int .i64 step, .int .i64 frm, .int .i64 many] w fun e w' =>
      ∃ a c x, e = .returned (.tuple #[.slice a many c, .nilIface]) ∧ FRow w' a many x ∧ (∀ k, k < many → Sft (powO f l n (frm + k * step)) (x k)) ∧ Below w.heap.size w w' := by
  obtain ⟨i0, hi, hz0, hz1, hz2⟩ := info_parts info_fl
  have HF1 := Lib.hid (fun W => far_no step hs W)
  have HF2 := Lib.hid (fun W => far_no frm hfr W)
  have hfb : (false = true ↔ ∃ i, i < n ∧ Far (f i)) := ⟨fun h => (by cases h), fun ⟨i, h1, h2⟩ => absurd h2 (hf i h1)⟩
  have HF3 := Lib.hid (fun W h => contains_far f n at' ct (by omega) W h false hfb)
  clear hfb
  have HT := Lib.hid hT
  have HA := Lib.hid (fun j (hj : j < n) => hT.at hj)
  have HL := Lib.hid (fun j (hj : j < n) => hL.at hj)
  have hb1 : -1099511627776 ≤ step ∧ step ≤ 1099511627776 := by unfold Far at hs; omega
  have hb2 : -1099511627776 ≤ frm ∧ frm ≤ 1099511627776 := by unfold Far at hfr; omega
  have HG := Lib.hid (fun (v : Int) (hv : In64 v) j (hj : j < n) W => angle_any v (f j) hv (by have h := hf j hj; unfold Far at h; omega) W)
  have HC := Lib.hid (fun v t W => cos_any (angM v t) (by have := angM_bd v t; unfold In64; omega) W)
  have HS := Lib.hid (fun v t W => sin_any (angM v t) (by have := angM_bd v t; unfold In64; omega) W)
  clear hT hL hs hfr hf
  go_enter Tryz.func4, Tryz.ntmps4
  go_wp2_with fail
  refine (HF1.out _).mono ?_; rintro e w1 ⟨rfl, rfl⟩
  go_wp2_with fail
  refine (HF2.out _).mono ?_; rintro e w1 ⟨rfl, rfl⟩
  go_wp2_with fail
  refine (HF3.out _ HT.out).mono ?_; rintro e w1 ⟨rfl, rfl⟩
  clear HF1 HF2 HF3
  go_wp2
  go_loopw [12, 55] (fun v i wr => ∃ (k : Nat) (xs : List Nat), k ≤ many ∧ i = .int .i64 k ∧ xs.length = k ∧ Hid (wr.ownsRow w1.heap.size 28 1 v k (xs.map (Value.float .f64))) ∧ Hid (∀ j, j < k → Sft (powO f l n (frm + j * step)) (xs.getD j 0)) ∧ Hid (Below w1.heap.size w1 wr)) (fun _ i _ => many - (intOf i).toNat)
  case atStart => exact ⟨0, [], Nat.zero_le _, rfl, rfl, Lib.hid (World.ownsRow_nil _ _ _ _), Lib.hid (fun j hj => absurd hj (Nat.not_lt_zero _)), Lib.hid (Below.refl _ _)⟩
  case round =>
    obtain ⟨k, xs, hk, rfl, hxs, hown, hxp, hB⟩ := hrel
    by_cases hlt : k < many
    · have hmb := mul_bd k step (by omega) hb1
      have HM := Lib.hid (rfl : (k : Int) * step = (k : Int) * step)
      obtain ⟨ks, hks⟩ : ∃ ks, ks = (k : Int) * step := ⟨_, rfl⟩
      have hks' : (k : Int) * step = ks := hks.symm
      rw [hks'] at hmb
      have HKS := Lib.hid hks
      have hwv : In64 (frm + ks) := by unfold In64; omega
      have HW := Lib.hid hwv
      clear hks hwv HM
      go_wp2
      obtain ⟨wo, hwo⟩ : ∃ wo : World, wo = wr := ⟨_, rfl⟩
      rw [← hwo] at hown hB
      go_loopw [15, 65] (fun v i wx => ∃ (j re im : Nat), j ≤ n ∧ i = .int .i64 j ∧ v = .complex .f64 re im ∧ Hid (Sft (reO f l (frm + ks) j) re) ∧ Hid (Sft (imO f l (frm + ks) j) im) ∧ Hid (Below wo.heap.size wo wx)) (fun _ i _ => n - (intOf i).toNat)
      case atStart => exact ⟨0, 0, 0, Nat.zero_le _, rfl, rfl, Lib.hid rfl, Lib.hid rfl, by rw [hwo]; exact Lib.hid (Below.refl _ _)⟩
      case round =>
        obtain ⟨j, re, im, hj, rfl, rfl, hre, him, hX⟩ := hrel
        rename World => wx
        by_cases hjn : j < n
        · obtain ⟨ba, oa, rfl, hba, ca⟩ := HA.out j hjn
          obtain ⟨bl, ol, rfl, hbl, cl'⟩ := HL.out j hjn
          have hBX := hB.out.trans (hX.out.mono hB.out.size)
          have c1 : wx.cell? ⟨ba, oa + j, none⟩ = some (.int .i64 (f j)) := by rw [hBX.cell (p := ⟨ba, oa + j, none⟩) hba]; exact ca
          have hblo : bl < wo.heap.size := by have := hB.out.size; omega
          have clo : wo.cell? ⟨bl, ol + j, none⟩ = some (.float .f64 (l j)) := by rw [hB.out.cell (p := ⟨bl, ol + j, none⟩) hbl]; exact cl'
          have KC : Hid (∀ W W' : World, (W.cell? ⟨bl, ol + j, none⟩ = some (.float .f64 (l j)) ∧ Hid (Below wo.heap.size wo W)) → Below W.heap.size W W' → (W'.cell? ⟨bl, ol + j, none⟩ = some (.float .f64 (l j)) ∧ Hid (Below wo.heap.size wo W'))) := Lib.hid (fun W W' h hb => by
            have h2 := h.2.out.trans (hb.mono h.2.out.size)
            exact ⟨by rw [h2.cell (p := ⟨bl, ol + j, none⟩) hblo]; exact clo, Lib.hid h2⟩)
          have KO : Hid (∀ (o : Option Nat) (W : World), (W.cell? ⟨bl, ol + j, none⟩ = some (.float .f64 (l j)) ∧ Hid (Below wo.heap.size wo W)) → ((opW o W).cell? ⟨bl, ol + j, none⟩ = some (.float .f64 (l j)) ∧ Hid (Below wo.heap.size wo (opW o W)))) := Lib.hid (fun o W h => ⟨by rw [cell_opW]; exact h.1, Lib.hid (below_opW h.2.out o)⟩)
          have SX : Hid (wx.cell? ⟨bl, ol + j, none⟩ = some (.float .f64 (l j)) ∧ Hid (Below wo.heap.size wo wx)) := Lib.hid ⟨by rw [hX.out.cell (p := ⟨bl, ol + j, none⟩) hblo]; exact clo, hX⟩
          clear ca cl' clo hBX
          go_upto_block 3 with (fail)
          go_cut [15] (fun v wz => ∃ re' im' : Nat, v = .complex .f64 re' im' ∧ Hid (Sft (reO f l (frm + ks) (j + 1)) re') ∧ Hid (Sft (imO f l (frm + ks) (j + 1)) im') ∧ Hid (Below wo.heap.size wo wz))
          case first =>
            go_wp2_with fail
            refine (HG.out (frm + ks) HW.out j hjn _).mono ?_; rintro e w2 ⟨rfl, hb2'⟩
            have S2 := Lib.hid (KC.out _ _ SX.out hb2')
            clear hb2' SX c1
            go_wp2_with fail
            have K0 : Hid (w2.drew.cell? ⟨bl, ol + j, none⟩ = some (.float .f64 (l j)) ∧ Hid (Below wo.heap.size wo w2.drew)) := Lib.hid ⟨S2.out.1, Lib.hid S2.out.2.out.drew⟩
            have hm := fun x y W => run_mulS x y W
            have hca := fun a b c d W => run_caddS a b c d W
            go_region_held (fun w' => w'.cell? ⟨bl, ol + j, none⟩ = some (.float .f64 (l j)) ∧ Hid (Below wo.heap.size wo w'))
              (first | (exact K0.out) | (exact KO.out _ _ (by assumption)) | (exact KO.out _ _ (KO.out _ _ (by assumption))) | assumption)
              (first | (go_at_call 13; refine (HC.out _ _ _).mono ?_; rintro e w3 ⟨rfl, hb3⟩; have s3 := KC.out _ _ (by assumption) hb3; clear hb3) | (go_at_call 14; refine (HS.out _ _ _).mono ?_; rintro e w4 ⟨rfl, hb4⟩; have s4 := KC.out _ _ (by assumption) hb4; clear hb4))
            all_goals
              go_wp2
              go_meet
              exact ⟨_, _, rfl, Lib.hid (sft_add hre.out (sft_op _ _ _ _) _), Lib.hid (sft_add him.out (sft_neg (sft_op _ _ _ _)) _), And.right (by assumption)⟩
          case rest =>
            obtain ⟨re', im', rfl, h1, h2, h3⟩ := hcut
            clear KC KO SX c1
            go_wp2
            exact ⟨⟨j + 1, re', im', by omega, by simp, rfl, h1, h2, h3⟩, by simp [intOf]; omega⟩
        · have hjn' : j = n := by omega
          subst hjn'
          have hm := fun x y W => run_mulS x y W
          have ha := fun x y W => run_addS x y W
          have HO : Hid (∀ W : World, Below wo.heap.size wo W → W.ownsRow w1.heap.size 28 1 u12 k (xs.map (Value.float .f64))) := Lib.hid (fun W hW => ownsRow_below hown.out hW)
          go_wp2_with (first
            | (at_builtin; refine Hid.out ?gap))
          case gap =>
            refine Lib.hid ?_
            have hr : Sft (powO f l j (frm + ks)) (opR (double.add (opR (double.mul re re) re re wx) (opR (double.mul im im) im im (opW (double.mul re re) wx))) (opR (double.mul re re) re re wx) (opR (double.mul im im) im im (opW (double.mul re re) wx)) (opW (double.mul im im) (opW (double.mul re re) wx))) := sft_add (sft_sq hre.out _) (sft_sq him.out _) _
            have hb3 : Below wo.heap.size wo (opW (double.add (opR (double.mul re re) re re wx) (opR (double.mul im im) im im (opW (double.mul re re) wx))) (opW (double.mul im im) (opW (double.mul re re) wx))) := below_opW (below_opW (below_opW hX.out _) _) _
            generalize opR (double.add (opR (double.mul re re) re re wx) (opR (double.mul im im) im im (opW (double.mul re re) wx))) (opR (double.mul re re) re re wx) (opR (double.mul im im) im im (opW (double.mul re re) wx)) (opW (double.mul im im) (opW (double.mul re re) wx)) = r at *
            have hz3 : (opW (double.add (opR (double.mul re re) re re wx) (opR (double.mul im im) im im (opW (double.mul re re) wx))) (opW (double.mul im im) (opW (double.mul re re) wx))).heap.size = wx.heap.size := by simp only [size_opW]
            generalize opW (double.add (opR (double.mul re re) re re wx) (opR (double.mul im im) im im (opW (double.mul re re) wx))) (opW (double.mul im im) (opW (double.mul re re) wx)) = W3 at *
            have ho3 := HO.out W3 hb3
            have s3 := hb3.size
            have s0 := hB.out.size
            have hbw : Below w1.heap.size w1 W3 := hB.out.trans (hb3.mono s0)
            refine wpList_append_own _ rfl _ _ 23 rfl w1.heap.size 28 i0 (.float .f64 0) 1 8 Tryz.underlying23 hi hz0 hz1 hz2 rfl (by decide) _ _ _ rfl (ho3.alloc _) _ 1 1 [.float .f64 r] rfl rfl ?c1 ?c2 ?c3 ?c4 ?c5 ?_
            case c1 =>
              intro q u hu
              rcases q with _ | q
              · rw [Addr.add_lit, ← hz3]
                exact heap_cell (heap_new W3 _) 0 hu
              · simp at hu
            case c2 => intro u hu; simp at hu; subst hu; rfl
            case c3 => unfold maxLen; omega
            case c4 => omega
            case c5 => simp; omega
            intro v' w' hown' hgrow _
            have hbn := (hbw.alloc hbw.size _).grown hgrow (by simp; omega) (fun q hq => (ho3.lt q hq).1)
            have HR := Lib.hid hr
            have HBn := Lib.hid hbn
            have HOn := Lib.hid hown'
            clear hgrow hbn hown' hr hbw ho3 hb3 s3 s0 hm ha
            go_wp2
            refine ⟨⟨k + 1, xs ++ [r], by omega, by simp, by simp [hxs], Lib.hid (by rw [List.map_append]; exact HOn.out), Lib.hid (fun q hq => ?_), HBn⟩, by simp [intOf]; omega⟩
            by_cases e : q = k
            · subst e
              have e2 : (xs ++ [r]).getD q 0 = r := by rw [List.getD_eq_getElem?_getD, List.getElem?_append_right (by omega)]; simp [hxs]
              rw [e2, ← HKS.out]
              exact HR.out
            · have e2 : (xs ++ [r]).getD q 0 = xs.getD q 0 := by rw [List.getD_eq_getElem?_getD, List.getD_eq_getElem?_getD, List.getElem?_append_left (by omega)]
              rw [e2]
              exact hxp.out q (by omega)
    · have hkm : k = many := by omega
      subst hkm
      obtain ⟨g, cap, hu, hfr⟩ : ∃ g cap, u12 = .slice (some ⟨g, 0, none⟩) k cap ∧ FRow wr (some ⟨g, 0, none⟩) k (fun q => xs.getD q 0) := by
        rcases hown.out.2 with ⟨_, h⟩ | ⟨g, cap, cur, e, _⟩
        · omega
        · refine ⟨g, cap, e, Or.inr ⟨g, 0, rfl, fun q hq => ?_⟩⟩
          have c1 := hown.out.cells (g := g) (by rw [e]; rfl) q (.float .f64 (xs.getD q 0)) (by rw [List.getElem?_map, List.getElem?_eq_getElem (by omega), List.getD_eq_getElem?_getD, List.getElem?_eq_getElem (by omega)]; rfl)
          rw [Addr.add_lit] at c1
          exact c1
      subst hu
      go_wp2
      go_ret2
      exact ⟨_, _, _, rfl, hfr, hxp.out, hB.out⟩
end Go.Proofs.YtbafddlkeocpeaaGreatDoor
