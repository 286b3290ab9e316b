/- SpotsMoved of package meridianlaw4: its walk. -/
import Derived.Test.YthbekddpnkammaaDoorMovA
namespace Go.Proofs.YthbekddpnkammaaDoor
open Go.RowKit

/-- What the two wide pictures are, i pixels put. -/
structure MInv (w0 wr : World) (m1 g1 m2 g2 V K N : Nat) (p1 p2 : Nat → Nat) (f : Nat → Int) (i : Nat) : Prop where
  o1 : OutZ wr m1 N (putsF p1 f i)
  o2 : OutZ wr m2 N (putsF p2 f i)
  x1 : Box3 wr g1 V K m1 N
  x2 : Box3 wr g2 V K m2 N
  low : Below w0.heap.size w0 wr
theorem placeM_len (L : List Sp) (s : Sp) : (placeL L s).length = L.length + 1 := by
  have := congrArg List.length (List.takeWhile_append_dropWhile (p := fun x => decide (s.Li ≤ x.Li)) (l := L))
  unfold placeL
  rw [List.length_append] at this ⊢
  rw [List.length_cons]
  omega
theorem foundM_len {W n m : Nat} {l : Nat → Int} {M : Nat → Nat} {least : Int} : (foundL W l M n m least).length ≤ m := by
  have h1 : ∀ A : List Sp, (placeAll A).length = A.length := fun A => by
    have h2 : ∀ A B : List Sp, (A.foldl placeL B).length = B.length + A.length := fun A => by
      induction A with
      | nil => intro B; rfl
      | cons x A ih => intro B; rw [List.foldl_cons, ih, placeM_len, List.length_cons]; omega
    have := h2 A []
    rw [List.length_nil, Nat.zero_add] at this
    exact this
  have h3 : ∀ (S : Nat → Sp) j, (stayL S least j).length ≤ j := fun S j => by
    induction j with
    | zero => exact Nat.le_refl _
    | succ j ih =>
      rw [stayL, List.length_append]
      split
      · exact Nat.le_succ_of_le ih
      · exact Nat.succ_le_succ ih
  unfold foundL
  rw [h1, List.length_map]
  exact h3 _ _
/-- Find at a wide picture. -/
theorem find_wide (ad : Nat → Addr) {W H V K N ddx ddy : Nat} {over : Int} {f : Nat → Int} (hV : V = W + 30) (hK : K = H + 30) (hN : N = V * K) (hW : 1 ≤ W) (hW2 : W ≤ 20) (hH : 1 ≤ H) (hH2 : H ≤ 20) (ho : 1 ≤ over) (hf : ∀ i, i < W * H → 0 ≤ f i ∧ f i ≤ 65535) (m : Nat) (w : World) (he : Errs w ad [1, 4]) (hO : OutZ w m N (putsF (posM W ddx ddy) f (W * H))) :
    Calls Tryd.prog 9 #[.agg #[.int .i64 V, .int .i64 K, .slice (some ⟨m, 0, none⟩) N N], .int .i64 256, .int .i64 over, .int .i64 1] w fun e w' =>
      ∃ (g' c' : Nat) (M : Nat → Nat) (L : List Sp), e = .returned (.tuple #[.slice (some ⟨g', 0, none⟩) L.length c', .nilIface]) ∧ FI (litW W H ddx ddy over f) V N N M ∧
        L = foundL V (lessF V 256 (wideF W ddx ddy (W * H) f) N) M N (rc (litW W H ddx ddy over f) V N N) 1 ∧ L.length ≤ 2500 ∧ (∀ s, s ∈ L → Tame s) ∧ OutZ w' g' (L.length * 9) (cellZ fun p => L.getD p Sp.nil) ∧ Below w.heap.size w w' := by
  subst hV hK hN
  have hb : (W + 30) * (H + 30) ≤ 2500 := Nat.mul_le_mul (show W + 30 ≤ 50 by omega) (show H + 30 ≤ 50 by omega)
  have hbd := fun k => wide_bd (dx := ddx) (dy := ddy) hf k
  have hg : picG ((W + 30 : Nat) : Int) ((H + 30 : Nat) : Int) ((W + 30) * (H + 30)) (wideF W ddx ddy (W * H) f) := ⟨by omega, by omega, by omega, by omega, Int.natCast_mul _ _, fun j _ => hbd j⟩
  refine (find_ok ad (W + 30) (H + 30) 256 over 1 (wideF W ddx ddy (W * H) f) (some ⟨m, 0, none⟩) ((W + 30) * (H + 30)) ((W + 30) * (H + 30)) w he hO.row hg (by decide) (by decide) (by omega) (by decide)).mono ?_
  rintro e w' ⟨g', c', M, rfl, hM, hO', hB⟩
  refine ⟨g', c', M, _, rfl, hM, rfl, ?_, ?_, hO', hB⟩
  · have h1 := foundM_len (W := W + 30) (n := (W + 30) * (H + 30)) (m := rc (litW W H ddx ddy over f) (W + 30) ((W + 30) * (H + 30)) ((W + 30) * (H + 30))) (l := lessF (W + 30) 256 (wideF W ddx ddy (W * H) f) ((W + 30) * (H + 30))) (M := M) (least := 1)
    have h2 := rc_le (lit := litW W H ddx ddy over f) (wide := W + 30) (n := (W + 30) * (H + 30)) ((W + 30) * (H + 30))
    exact Nat.le_trans h1 (Nat.le_trans h2 hb)
  · intro s hs
    refine found_tame (H := H + 30) (by omega) (by omega) (Nat.mul_comm _ _) (by omega) (fun i hi => lessF_bd (fun j _ => hbd j) hi) (fun i hi hm => ?_) hs
    have := of_decide_eq_true ((fi_lit hM hi).2 hm)
    omega
set_option maxRecDepth 10000 in
set_option maxHeartbeats 8000000 in
theorem moved_main (ad : Nat → Addr) {w : World} (hE : Errs w ad [1, 4]) (over : Int) (W H dx dy : Nat) (hdx : dx ≤ 10) (hdy : dy ≤ 10) (f : Nat → Int) (b o : Nat) (a : Option Addr) (n cap : Nat) (hp : PicAt w b o W H a n cap f) (g : picG W H n f) (hW2 : W ≤ 20) (hH2 : H ≤ 20) (ho : 1 ≤ over)
    (hSm : ∀ W, Below w.heap.size w W → Calls Tryd.prog 7 #[.pointer (some ⟨b, o, none⟩)] W fun e w' => e = .returned (.bool true) ∧ W = w') :
    Calls Tryd.prog 3 #[.pointer (some ⟨b, o, none⟩), .int .i64 over, .int .i64 dx, .int .i64 dy] w fun e w' => e = .returned (.bool true) ∧ Below w.heap.size w w' := by
  obtain ⟨i0, hi, hz0, hz1, hz2⟩ := info_parts info_int'
  have HS := Lib.hid (spotted_any ad w hE)
  have HSm := Lib.hid hSm
  have HP := Lib.hid (fun w' (hb : Below w.heap.size w w') => picE_ok b o W H f a n cap w' (hp.below hb) g)
  have HPi := Lib.hid hp
  have HEr := Lib.hid (fun w' (hb : Below w.heap.size w w') => hE.below hb)
  have hW := g.1
  have hH := g.2.2.1
  have hn : n = W * H := by
    have : (n : Int) = ((W * H : Nat) : Int) := by rw [g.2.2.2.2.1]; push_cast; rfl
    omega
  have HF : Hid (∀ i, i < W * H → 0 ≤ f i ∧ f i ≤ 65535) := Lib.hid (fun i hi => g.2.2.2.2.2 i (by omega))
  have HNN := Lib.hid hn
  have HNU : Hid (∀ i, i < n → _) := Lib.hid (fun i hi => pos_nums (W := W) (H := H) (dx := dx) (dy := dy) (i := i) (by omega) hW2 hH2 hdx hdy (by rw [← hn]; exact hi))
  have hnb : n ≤ 400 := by rw [hn]; exact Nat.mul_le_mul hW2 hH2
  have d1 : decide ((dx : Int) < 0) = false := by simp
  have d2 : decide ((dy : Int) < 0) = false := by simp
  have d3 : decide (10 < (dx : Int)) = false := by simp; omega
  have d4 : decide (10 < (dy : Int)) = false := by simp; omega
  have d5 : decide (20 < (W : Int)) = false := by simp; omega
  have d6 : decide (20 < (H : Int)) = false := by simp; omega
  have d7 : decide (over < 1) = false := by simp; omega
  obtain ⟨V, hV⟩ : ∃ V, V = W + 30 := ⟨_, rfl⟩
  obtain ⟨K, hK⟩ : ∃ K, K = H + 30 := ⟨_, rfl⟩
  obtain ⟨N, hN⟩ : ∃ N, N = V * K := ⟨_, rfl⟩
  have e1 : (W : Int) + 30 = (V : Int) := by omega
  have e2 : (H : Int) + 30 = (K : Int) := by omega
  have e3 : (V : Int) * (K : Int) = (N : Int) := by rw [hN]; push_cast; rfl
  have hNb : N ≤ 2500 := by rw [hN]; exact Nat.mul_le_mul (show V ≤ 50 by omega) (show K ≤ 50 by omega)
  have u1 : IntKind.i64.wrap (V : Int) = (V : Int) := IntWalk.i64_in _ (by omega)
  have u2 : IntKind.i64.wrap (K : Int) = (K : Int) := IntWalk.i64_in _ (by omega)
  have u3 : IntKind.i64.wrap (N : Int) = (N : Int) := IntWalk.i64_in _ (by omega)
  have HVK : Hid (V = W + 30 ∧ K = H + 30 ∧ N = V * K) := Lib.hid ⟨hV, hK, hN⟩
  clear hE hSm hp g hn hV hK hN
  go_enter Tryd.func3, Tryd.ntmps3
  go_wp2_with fail
  refine HS.out.mono ?_; rintro e w1 ⟨rfl, hb1⟩
  have B1 := Lib.hid hb1
  clear hb1 HS
  go_wp2_with fail
  refine (HSm.out _ B1.out).mono ?_; rintro e w2 ⟨rfl, rfl⟩
  go_wp2_with fail
  refine (HP.out _ B1.out).mono ?_; rintro e w3 ⟨rfl, hb3⟩
  have B3 := Lib.hid (below_step B1.out hb3)
  have hq := HPi.out.below B3.out
  have k0 := hq.1
  have k1 := hq.2.1
  clear hb3 HP hq HSm B1
  go_wp2_with (first
    | (refine wpList_make_full _ rfl (.tmp 87) (.tmp 87) 26 rfl w3.heap.size 3 i0 (.int .i64 0) 1 Tryd.underlying26 hi hz0 hz1 .i64 .i64 (N : Int) (N : Int) N rfl rfl rfl rfl (by rw [hz2]; omega) (by unfold maxLen; omega) (Nat.le_refl _) ?_; intro w4 hown hgrow; have HB4 : Hid (Below w3.heap.size w3 w4) := Lib.hid ((Below.refl _ _).grown hgrow (Nat.le_refl _) (fun j hj => by cases hj)); have HO4 := Lib.hid (outZ_made hown); have hs1 : w3.heap.size < w4.heap.size := (hown.lt _ rfl).2; clear hown hgrow)
    | (refine wpList_make_full _ rfl (.tmp 94) (.tmp 94) 26 rfl (w4.alloc (.cells #[.int .i64 (V : Int), .int .i64 (K : Int), .slice (some ⟨w3.heap.size, 0, none⟩) N N] 28)).heap.size 3 i0 (.int .i64 0) 1 Tryd.underlying26 hi hz0 hz1 .i64 .i64 (N : Int) (N : Int) N rfl rfl rfl rfl (by rw [hz2]; omega) (by unfold maxLen; omega) (Nat.le_refl _) ?_; intro w5 hown hgrow; have HB5 : Hid (Below (w4.alloc (.cells #[.int .i64 (V : Int), .int .i64 (K : Int), .slice (some ⟨w3.heap.size, 0, none⟩) N N] 28)).heap.size (w4.alloc (.cells #[.int .i64 (V : Int), .int .i64 (K : Int), .slice (some ⟨w3.heap.size, 0, none⟩) N N] 28)) w5) := Lib.hid ((Below.refl _ _).grown hgrow (Nat.le_refl _) (fun j hj => by cases hj)); have HO5 := Lib.hid (outZ_made hown); have hs3 : (w4.alloc (.cells #[.int .i64 (V : Int), .int .i64 (K : Int), .slice (some ⟨w3.heap.size, 0, none⟩) N N] 28)).heap.size < w5.heap.size := (hown.lt _ rfl).2; clear hown hgrow))
  have HBa : Hid (Below w3.heap.size w3 (w4.alloc (.cells #[.int .i64 (V : Int), .int .i64 (K : Int), .slice (some ⟨w3.heap.size, 0, none⟩) N N] 28))) := Lib.hid (HB4.out.alloc HB4.out.size _)
  have HXa : Hid (Box3 (w4.alloc (.cells #[.int .i64 (V : Int), .int .i64 (K : Int), .slice (some ⟨w3.heap.size, 0, none⟩) N N] 28)) w4.heap.size V K w3.heap.size N) := Lib.hid (box3_new _ _ _ _ _ _)
  have HOa : Hid (OutZ (w4.alloc (.cells #[.int .i64 (V : Int), .int .i64 (K : Int), .slice (some ⟨w3.heap.size, 0, none⟩) N N] 28)) w3.heap.size N (fun _ => 0)) := Lib.hid (HO4.out.below ((Below.refl _ _).alloc (Nat.le_refl _) _))
  clear HO4 HB4 k0 k1
  have hsz : (w4.alloc (.cells #[.int .i64 (V : Int), .int .i64 (K : Int), .slice (some ⟨w3.heap.size, 0, none⟩) N N] 28)).heap.size = w4.heap.size + 1 := by simp
  generalize (w4.alloc (.cells #[.int .i64 (V : Int), .int .i64 (K : Int), .slice (some ⟨w3.heap.size, 0, none⟩) N N] 28)) = wa at *
  have HM0 : Hid (MInv w3 (w5.alloc (.cells #[.int .i64 (V : Int), .int .i64 (K : Int), .slice (some ⟨wa.heap.size, 0, none⟩) N N] 28)) w3.heap.size w4.heap.size wa.heap.size w5.heap.size V K N (posM W 0 0) (posM W dx dy) f 0) := Lib.hid (by
    have hb6 : ∀ o, Below w5.heap.size w5 (w5.alloc o) := fun o => (Below.refl _ _).alloc (Nat.le_refl _) _
    have hba : ∀ o, Below wa.heap.size wa (w5.alloc o) := fun o => below_step HB5.out (hb6 o)
    exact ⟨HOa.out.below (hba _), HO5.out.below (hb6 _), HXa.out.below (hba _), box3_new _ _ _ _ _ _, below_step HBa.out (hba _)⟩)
  clear HBa HXa HOa HB5 HO5
  rw [hsz] at HM0 hs3
  have hs2 : w4.heap.size < w4.heap.size + 1 := Nat.lt_succ_self _
  clear hsz
  generalize w4.heap.size + 1 = m2 at *
  have hs0 := B3.out.size
  generalize hm1 : w3.heap.size = m1 at *
  have HM1 := Lib.hid hm1
  clear hm1
  generalize w4.heap.size = g1 at *
  generalize w5.heap.size = g2 at *
  go_loopw [15] (fun iv wr => ∃ i : Nat, i ≤ n ∧ iv = .int .i64 i ∧ Hid (MInv w3 wr m1 g1 m2 g2 V K N (posM W 0 0) (posM W dx dy) f i)) (fun iv _ => n - (intOf iv).toNat)
  case atStart => exact ⟨0, Nat.zero_le _, rfl, HM0⟩
  case round =>
    clear HM0
    obtain ⟨i, hi2, rfl, hM⟩ := hrel
    have hq := HPi.out.below (below_step B3.out hM.out.low)
    have k0 := hq.1
    have k1 := hq.2.1
    have k2 := hq.2.2.1
    by_cases hlt : i < n
    · obtain ⟨ba, oa, rfl, hba, ck⟩ := hq.2.2.2.at hlt
      obtain ⟨Q, R, X, Y, V', P1, P2, Y2, P3, ⟨hv, hp2, hp3⟩, ⟨t1, t2, t3, t4⟩, ⟨a1, a2, a3, a4, a5, a6⟩, ⟨b1, b2, b3, b4, b5, b6, b7, b8, b9⟩, z1, z2, z3⟩ := HNU.out i hlt
      obtain rfl : V' = V := by rw [hv, HVK.out.1]
      have l1 : P2 < N := by
        have := pos_lt (W := W) (H := H) (dx := 0) (dy := 0) (i := i) (by omega) (by omega) (by omega) (by rw [← HNN.out]; exact hlt)
        rw [HVK.out.2.2, HVK.out.1, HVK.out.2.1, hp2]; exact this
      have l2 : P3 + X + dx < N := by
        have := pos_lt (W := W) (H := H) (dx := dx) (dy := dy) (i := i) (by omega) hdx hdy (by rw [← HNN.out]; exact hlt)
        rw [HVK.out.2.2, HVK.out.1, HVK.out.2.1, hp3]; exact this
      have BX1 := hM.out.x1
      have BX2 := hM.out.x2
      have c1 := BX1.2.2
      have c2 := BX2.2.2
      have co1 := (hM.out.o1 P2 l1).1
      have fo1 := (hM.out.o1 P2 l1).2
      have co2 := (hM.out.o2 (P3 + X + dx) l2).1
      have fo2 := (hM.out.o2 (P3 + X + dx) l2).2
      have hbw : b < m1 := Nat.lt_of_lt_of_le (cell_lt HPi.out.1) hs0
      have haw : ba < m1 := by
        obtain ⟨ba', oa', e', hba', _⟩ := HPi.out.2.2.2.at hlt
        cases e'
        omega
      have n1 : b ≠ m1 := by omega
      have n2 : ba ≠ m1 := by omega
      have n3 : g1 ≠ m1 := by omega
      have n4 : g2 ≠ m1 := by omega
      have n5 : m2 ≠ m1 := by omega
      have n6 : b ≠ m2 := by omega
      have n7 : ba ≠ m2 := by omega
      have n8 : g1 ≠ m2 := by omega
      have n9 : g2 ≠ m2 := by omega
      clear BX1 BX2
      have HPN1 := Lib.hid (fun W' (h : OutZ W' m1 N (putsF (posM W 0 0) f i)) => puts_next (pos := posM W 0 0) (f := f) h (by rw [← hp2]; exact l1))
      have HPN2 := Lib.hid (fun W' (h : OutZ W' m2 N (putsF (posM W dx dy) f i)) => puts_next (pos := posM W dx dy) (f := f) h (by rw [← hp3]; exact l2))
      rw [← hp2] at HPN1
      rw [← hp3] at HPN2
      generalize hfi : f i = x at *
      have HFI := Lib.hid hfi
      clear hfi hp2 hp3 hv
      obtain ⟨P5, hP5⟩ : ∃ P5, P5 = P3 + X := ⟨_, rfl⟩
      obtain ⟨P4, hP4⟩ : ∃ P4, P4 = P3 + X + dx := ⟨_, rfl⟩
      have a7 : (P3 : Int) + (X : Int) = (P5 : Int) := by omega
      have a8 : (P5 : Int) + (dx : Int) = (P4 : Int) := by omega
      rw [← hP4] at HPN2 co2 fo2 l2 b9
      have w1 : IntKind.i64.wrap (Q : Int) = (Q : Int) := IntWalk.i64_in _ (by omega)
      have w2 : IntKind.i64.wrap (R : Int) = (R : Int) := IntWalk.i64_in _ (by omega)
      have w3' : IntKind.i64.wrap (X : Int) = (X : Int) := IntWalk.i64_in _ (by omega)
      have w4' : IntKind.i64.wrap (Y : Int) = (Y : Int) := IntWalk.i64_in _ (by omega)
      have w5' : IntKind.i64.wrap (P1 : Int) = (P1 : Int) := IntWalk.i64_in _ (by omega)
      have w6 : IntKind.i64.wrap (P2 : Int) = (P2 : Int) := IntWalk.i64_in _ (by omega)
      have w7 : IntKind.i64.wrap (Y2 : Int) = (Y2 : Int) := IntWalk.i64_in _ (by omega)
      have w8 : IntKind.i64.wrap (P3 : Int) = (P3 : Int) := IntWalk.i64_in _ (by omega)
      have w9 : IntKind.i64.wrap (P5 : Int) = (P5 : Int) := IntWalk.i64_in _ (by omega)
      have w10 : IntKind.i64.wrap (P4 : Int) = (P4 : Int) := IntWalk.i64_in _ (by omega)
      have y1 : (0 : Int) ≤ (P2 : Int) := by omega
      have y2 : (P2 : Int) < (N : Int) := by omega
      have y3 : (0 : Int) ≤ (P4 : Int) := by omega
      have y4 : (P4 : Int) < (N : Int) := by omega
      clear hP4 hP5 hq hba
      go_wp2
      go_region
      have HO1 : Hid (OutZ ((wr.setCell ⟨m1, P2, none⟩ (.int .i64 x)).drew) m1 N (putsF (posM W 0 0) f (i + 1))) := Lib.hid (OutZ.drew1 (HPN1.out wr hM.out.o1))
      have HO2 : Hid (OutZ ((wr.setCell ⟨m1, P2, none⟩ (.int .i64 x)).drew) m2 N (putsF (posM W dx dy) f i)) := Lib.hid (OutZ.drew1 (hM.out.o2.other (Ne.symm n5)))
      have HX1 : Hid (Box3 ((wr.setCell ⟨m1, P2, none⟩ (.int .i64 x)).drew) g1 V' K m1 N) := Lib.hid (Box3.drew (hM.out.x1.set (Ne.symm n3)))
      have HX2 : Hid (Box3 ((wr.setCell ⟨m1, P2, none⟩ (.int .i64 x)).drew) g2 V' K m2 N) := Lib.hid (Box3.drew (hM.out.x2.set (Ne.symm n4)))
      have HLW : Hid (Below w3.heap.size w3 ((wr.setCell ⟨m1, P2, none⟩ (.int .i64 x)).drew)) := Lib.hid (Below.drew (hM.out.low.setCell (p := ⟨m1, P2, none⟩) (Nat.le_of_eq HM1.out) _))
      clear c1 c2 co1 fo1 co2 fo2 k0 k1 k2 ck hM
      generalize (wr.setCell ⟨m1, P2, none⟩ (.int .i64 x)).drew = wn at *
      have c2 := HX2.out.2.2
      have co2 := (HO2.out P4 l2).1
      have fo2 := (HO2.out P4 l2).2
      have hq := HPi.out.below (below_step B3.out HLW.out)
      have k2 := hq.2.2.1
      obtain ⟨ba', oa', e', _, ck⟩ := hq.2.2.2.at hlt
      cases e'
      rw [HFI.out] at ck
      clear hq
      go_wp2
      go_region
      have HML : Hid (MInv w3 ((wn.setCell ⟨m2, P4, none⟩ (.int .i64 x)).drew) m1 g1 m2 g2 V' K N (posM W 0 0) (posM W dx dy) f (i + 1)) := Lib.hid ⟨OutZ.drew1 (HO1.out.other n5), OutZ.drew1 (HPN2.out wn HO2.out), Box3.drew (HX1.out.set (Ne.symm n8)), Box3.drew (HX2.out.set (Ne.symm n9)), Below.drew (HLW.out.setCell (p := ⟨m2, P4, none⟩) (Nat.le_of_lt (Nat.lt_of_le_of_lt (Nat.le_of_eq HM1.out) (show m1 < m2 by omega))) _)⟩
      clear HO1 HO2 HX1 HX2 HLW c2 co2 fo2 k2 ck
      generalize (wn.setCell ⟨m2, P4, none⟩ (.int .i64 x)).drew = wl at *
      go_wp2
      go_roundw
      case rel => exact ⟨i + 1, by omega, by go_num, HML⟩
      case measure => simp [intOf]; omega
    · have ei : i = n := by omega
      rw [ei, HNN.out] at hM
      have HFa := Lib.hid (fun w' (hb : Below wr.heap.size wr w') => find_wide (ddx := 0) (ddy := 0) ad HVK.out.1 HVK.out.2.1 HVK.out.2.2 (by omega) hW2 (by omega) hH2 ho HF.out m1 w' (HEr.out w' (below_step B3.out (below_step hM.out.low hb))) (hM.out.o1.below hb))
      have HFb := Lib.hid (fun w' (hb : Below wr.heap.size wr w') => find_wide (ddx := dx) (ddy := dy) ad HVK.out.1 HVK.out.2.1 HVK.out.2.2 (by omega) hW2 (by omega) hH2 ho HF.out m2 w' (HEr.out w' (below_step B3.out (below_step hM.out.low hb))) (hM.out.o2.below hb))
      have BW := Lib.hid (below_step B3.out hM.out.low)
      obtain ⟨c0, c1, c2⟩ := hM.out.x1
      have HX2 := Lib.hid (fun w' (hb : Below wr.heap.size wr w') => hM.out.x2.below hb)
      have HEQ := Lib.hid (fun (Ma Mb : Nat → Nat) ha hb => moved_found (W := W) (H := H) (dx := dx) (dy := dy) (over := over) (f := f) (by omega) hW2 hH2 hdx hdy ho HF.out (Ma := Ma) (Mb := Mb) ha hb)
      rw [← HVK.out.1, ← HVK.out.2.1, ← HVK.out.2.2] at HEQ
      clear hM k0 k1 hq ei
      go_wp2_with fail
      refine (HFa.out wr (Below.refl _ _)).mono ?_; rintro e w6 ⟨ga, ca, Ma, La, rfl, hMa, hLa, hnL, hTa, hOa, hb6⟩
      have B6 := Lib.hid hb6
      have HL := Lib.hid hLa
      have HMa := Lib.hid hMa
      have HTa := Lib.hid hTa
      have HOa := Lib.hid hOa
      obtain ⟨c0', c1', c2'⟩ := HX2.out w6 hb6
      clear hb6 hLa hMa hTa hOa c0 c1 c2 HFa
      go_wp2_with fail
      refine (HFb.out w6 B6.out).mono ?_; rintro e w7 ⟨gb, cb, Mb, Lb, rfl, hMb, hLb, _, _, hOb, hb7⟩
      have HS : Hid (Lb = La.map (shT dx dy)) := Lib.hid (by rw [hLb, HL.out]; exact HEQ.out Ma Mb HMa.out hMb)
      have hlen : Lb.length = La.length := by rw [HS.out, List.length_map]
      have B7 := Lib.hid (below_step BW.out (below_step B6.out hb7))
      have HOa7 := Lib.hid (HOa.out.below hb7)
      have HOb7 := Lib.hid hOb
      clear hb7 hMb hLb hOb HOa HEQ HFb HX2 HL HMa c0' c1' c2'
      have HCA : Hid (∀ W', Below w7.heap.size w7 W' → ∀ k, k < La.length → W'.cell? ⟨ga, k * 9, none⟩ = some (.int .i64 (La.getD k Sp.nil).L) ∧ W'.cell? ⟨ga, k * 9 + 1, none⟩ = some (.int .i64 (La.getD k Sp.nil).T) ∧ W'.cell? ⟨ga, k * 9 + 2, none⟩ = some (.int .i64 (La.getD k Sp.nil).R) ∧ W'.cell? ⟨ga, k * 9 + 3, none⟩ = some (.int .i64 (La.getD k Sp.nil).Lo) ∧ W'.cell? ⟨ga, k * 9 + 4, none⟩ = some (.int .i64 (La.getD k Sp.nil).P) ∧ W'.cell? ⟨ga, k * 9 + 5, none⟩ = some (.int .i64 (La.getD k Sp.nil).Li) ∧ W'.cell? ⟨ga, k * 9 + 6, none⟩ = some (.int .i64 (La.getD k Sp.nil).X) ∧ W'.cell? ⟨ga, k * 9 + 7, none⟩ = some (.int .i64 (La.getD k Sp.nil).Y) ∧ W'.cell? ⟨ga, k * 9 + 8, none⟩ = some (.int .i64 (La.getD k Sp.nil).SL)) := Lib.hid (fun W' hb k hk => cell9' (HOa7.out.below hb) hk)
      have HCB : Hid (∀ W', Below w7.heap.size w7 W' → ∀ k, k < La.length → W'.cell? ⟨gb, k * 9, none⟩ = some (.int .i64 (shT dx dy (La.getD k Sp.nil)).L) ∧ W'.cell? ⟨gb, k * 9 + 1, none⟩ = some (.int .i64 (shT dx dy (La.getD k Sp.nil)).T) ∧ W'.cell? ⟨gb, k * 9 + 2, none⟩ = some (.int .i64 (shT dx dy (La.getD k Sp.nil)).R) ∧ W'.cell? ⟨gb, k * 9 + 3, none⟩ = some (.int .i64 (shT dx dy (La.getD k Sp.nil)).Lo) ∧ W'.cell? ⟨gb, k * 9 + 4, none⟩ = some (.int .i64 (shT dx dy (La.getD k Sp.nil)).P) ∧ W'.cell? ⟨gb, k * 9 + 5, none⟩ = some (.int .i64 (shT dx dy (La.getD k Sp.nil)).Li) ∧ W'.cell? ⟨gb, k * 9 + 6, none⟩ = some (.int .i64 (shT dx dy (La.getD k Sp.nil)).X) ∧ W'.cell? ⟨gb, k * 9 + 7, none⟩ = some (.int .i64 (shT dx dy (La.getD k Sp.nil)).Y) ∧ W'.cell? ⟨gb, k * 9 + 8, none⟩ = some (.int .i64 (shT dx dy (La.getD k Sp.nil)).SL)) := Lib.hid (fun W' hb k hk => by
        have h := cell9' (HOb7.out.below hb) (show k < Lb.length by omega)
        have e : Lb.getD k Sp.nil = shT dx dy (La.getD k Sp.nil) := by
          rw [HS.out, List.getD_eq_getElem?_getD, List.getD_eq_getElem?_getD, List.getElem?_map, List.getElem?_eq_getElem hk]
          rfl
        rw [e] at h
        exact h)
      have HTM : Hid (∀ k, k < La.length → Tame (La.getD k Sp.nil)) := Lib.hid (fun k hk => HTa.out _ (getD_mem hk))
      have hga : 0 < La.length → ga < w7.heap.size := fun h => cell_lt ((HCA.out w7 (Below.refl _ _) 0 h).1)
      have hgb : 0 < La.length → gb < w7.heap.size := fun h => cell_lt ((HCB.out w7 (Below.refl _ _) 0 h).1)
      rw [hlen]
      clear HOa7 HOb7 HS hlen HTa
      generalize La.length = m at *
      go_wp2
      go_loopw [22] (fun kv wq => ∃ k : Nat, k ≤ m ∧ kv = .int .i64 k ∧ Hid (Below w7.heap.size w7 wq)) (fun kv _ => m - (intOf kv).toNat)
      case atStart => exact ⟨0, Nat.zero_le _, rfl, Lib.hid (Below.refl _ _)⟩
      case round =>
        obtain ⟨k, hk, rfl, hB⟩ := hrel
        generalize wr = wq at *
        by_cases hkm : k < m
        · obtain ⟨p0, p1, p2, p3, p4, p5, p6, p7, p8⟩ := HCA.out wq hB.out k hkm
          obtain ⟨q0, q1, q2, q3, q4, q5, q6, q7, q8⟩ := HCB.out wq hB.out k hkm
          obtain ⟨⟨tl, tl'⟩, ⟨tt, tt'⟩, ⟨tx, tx'⟩, ty, ty'⟩ := HTM.out k hkm
          have hsz := hB.out.size
          have hga' := hga (by omega)
          have hgb' := hgb (by omega)
          generalize La.getD k Sp.nil = s at *
          obtain ⟨sL, sT, sR, sO, sP, sI, sX, sY, sS⟩ := s
          unfold shT at q0 q1 q2 q3 q4 q5 q6 q7 q8
          simp only at p0 p1 p2 p3 p4 p5 p6 p7 p8 q0 q1 q2 q3 q4 q5 q6 q7 q8 tl tl' tt tt' tx tx' ty ty'
          have ex1 : IntKind.i64.wrap (1024 * (dx : Int)) = 1024 * (dx : Int) := IntWalk.i64_in _ (by omega)
          have ex2 : IntKind.i64.wrap (1024 * (dy : Int)) = 1024 * (dy : Int) := IntWalk.i64_in _ (by omega)
          have ex3 : IntKind.i64.wrap (sX + 1024 * (dx : Int)) = sX + 1024 * (dx : Int) := IntWalk.i64_in _ (by omega)
          have ex4 : IntKind.i64.wrap (sY + 1024 * (dy : Int)) = sY + 1024 * (dy : Int) := IntWalk.i64_in _ (by omega)
          have ex5 : IntKind.i64.wrap (sL + (dx : Int)) = sL + (dx : Int) := IntWalk.i64_in _ (by omega)
          have ex6 : IntKind.i64.wrap (sT + (dy : Int)) = sT + (dy : Int) := IntWalk.i64_in _ (by omega)
          have nga : ga ≠ wq.heap.size := by omega
          have ngb : gb ≠ wq.heap.size := by omega
          have ngc : gb < wq.heap.size := by omega
          go_wp2
          go_roundw
          case rel => exact ⟨k + 1, by omega, by go_num, Lib.hid ((hB.out.alloc hsz _).alloc (by simp; omega) _)⟩
          case measure => simp [intOf]; omega
        · have BF := Lib.hid (below_step B7.out hB.out)
          go_wp2
          go_ret
          exact ⟨rfl, BF.out⟩
theorem spotsMoved_any (ad : Nat → Addr) {w : World} (x0 : Option Addr) (h0 : PicP w x0) (over : Int) (_ : In64 over) (dx : Int) (_ : In64 dx) (dy : Int) (_ : In64 dy) (hE : Errs w ad [1, 4]) :
    Calls Tryd.prog 3 #[.pointer x0, .int .i64 over, .int .i64 dx, .int .i64 dy] w fun e w' => e = .returned (.bool true) ∧ Below w.heap.size w w' := by
  obtain ⟨s, hs, hk⟩ := small_is h0
  cases s with
  | false => exact moved_great ad hE x0 over dx dy hs
  | true =>
    obtain ⟨b, o, W, H, a, n, cap, f, rfl, hn, _, _, hp⟩ := hk rfl
    by_cases hD : dx < 0 ∨ dy < 0 ∨ 10 < dx ∨ 10 < dy
    · exact moved_far ad hE _ over dx dy hD hs
    · by_cases g : picG W H n f
      · by_cases hB : 20 < W ∨ 20 < H ∨ over < 1
        · exact moved_large ad hE over dx dy (by omega) (by omega) (by omega) (by omega) W H f b o a n cap hp g hB hs
        · obtain ⟨V, rfl⟩ : ∃ V : Nat, W = (V : Int) := ⟨W.toNat, by have := g.1; omega⟩
          obtain ⟨K, rfl⟩ : ∃ K : Nat, H = (K : Int) := ⟨H.toNat, by have := g.2.2.1; omega⟩
          obtain ⟨x, rfl⟩ : ∃ x : Nat, dx = (x : Int) := ⟨dx.toNat, by omega⟩
          obtain ⟨y, rfl⟩ : ∃ y : Nat, dy = (y : Int) := ⟨dy.toNat, by omega⟩
          exact moved_main ad hE over V K x y (by omega) (by omega) f b o a n cap hp g (by omega) (by omega) (by omega) hs
      · exact moved_wrong ad hE _ over dx dy (by omega) (by omega) (by omega) (by omega) (picB W H + 1 : Nat) (by omega) (fun w' hb => picE_bad b o W H f a n cap w' (hp.below hb) (by omega) g) hs
end Go.Proofs.YthbekddpnkammaaDoor
