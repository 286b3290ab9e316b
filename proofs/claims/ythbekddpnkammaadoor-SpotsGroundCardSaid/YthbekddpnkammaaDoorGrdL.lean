/- SpotsGround of package meridianlaw4: the law. -/
import Derived.Test.YthbekddpnkammaaDoorSpotd
import Derived.Test.YthbekddpnkammaaDoorOver
import Derived.Test.YthbekddpnkammaaDoorSmall
import Derived.Test.YthbekddpnkammaaDoorCoded4
namespace Go.Proofs.YthbekddpnkammaaDoor
open Go.RowKit

theorem picB_lt3 (W H : Int) : picB W H < 10 := by unfold picB; split <;> omega
/-- The law where the picture is none, or the tile's size is wrong. -/
theorem ground_bad (ad : Nat → Addr) {w : World} (hE : Sents w ad) (W H T over : Int) (f : Nat → Int) (b o : Nat) (a : Option Addr) (n cap : Nat) (hn : n ≤ 700) (hp : PicAt w b o W H a n cap f) (ev : Value) (e0 : Int) (he0 : 0 < e0)
    (hG : ∀ w', Below w.heap.size w w' → Calls Tryd.prog 10 #[.agg #[.int .i64 W, .int .i64 H, .slice a n cap], .int .i64 T] w' fun e w'' => e = .returned (.tuple #[.slice none 0 0, ev]) ∧ Below w'.heap.size w' w'')
    (hR : ∀ w', Below w.heap.size w w' → Calls Tryd.prog 11 #[.pointer (some ⟨b, o, none⟩), .int .i64 T] w' fun e w'' => e = .returned (.tuple #[.slice none 0 0, .int .i64 e0]) ∧ Below w'.heap.size w' w'')
    (hL : ∀ w', Below w.heap.size w w' → Calls Tryd.prog 14 #[.agg #[.int .i64 W, .int .i64 H, .slice a n cap], .int .i64 T, .int .i64 over] w' fun e w'' => e = .returned (.tuple #[.slice none 0 0, ev]) ∧ Below w'.heap.size w' w'')
    (hC : ∀ w', Below w.heap.size w w' → Calls Tryd.prog 12 #[ev, .int .i64 e0] w' fun e w'' => e = .returned (.bool true) ∧ Below w'.heap.size w' w'')
    (hSm : ∀ W, Below w.heap.size w W → Calls Tryd.prog 7 #[.pointer (some ⟨b, o, none⟩)] W fun e w' => e = .returned (.bool true) ∧ W = w') :
    Calls Tryd.prog 4 #[.pointer (some ⟨b, o, none⟩), .int .i64 T, .int .i64 over] w fun e w' => e = .returned (.bool true) ∧ Below w.heap.size w w' := by
  have HS := Lib.hid (spotted_any ad w (hE.errs _ (by decide)))
  have HG := Lib.hid hG
  have HR := Lib.hid hR
  have HL := Lib.hid hL
  have HC := Lib.hid hC
  have HSm := Lib.hid hSm
  have HPi := Lib.hid hp
  have HSI := Lib.hid (fun w' => sameInts_any (fun _ => 0) (fun _ => 0) none none 0 0 0 (by decide) w' (Or.inl rfl) (Or.inl rfl) (fun j hj => by omega))
  have z0 : (e0 == 0) = false := by simp; omega
  clear hE hG hR hL hC hSm hp
  go_enter Tryd.func4, Tryd.ntmps4
  go_wp2_with fail
  refine HS.out.mono ?_; rintro e w1 ⟨rfl, hb1⟩
  have B1 := Lib.hid hb1
  clear hb1 HS
  go_wp2_with fail
  refine (HSm.out _ B1.out).mono ?_; rintro e w2 ⟨rfl, rfl⟩
  have hq := HPi.out.below B1.out
  have k0 := hq.1
  have k1 := hq.2.1
  have k2 := hq.2.2.1
  clear hq HSm
  go_wp2_with fail
  refine (HG.out _ B1.out).mono ?_; rintro e w3 ⟨rfl, hb3⟩
  have B3 := Lib.hid (below_step B1.out hb3)
  clear hb3 HG k0 k1 k2
  go_wp2_with fail
  refine (HR.out _ B3.out).mono ?_; rintro e w4 ⟨rfl, hb4⟩
  have B4 := Lib.hid (below_step B3.out hb4)
  clear hb4 HR B3
  go_wp2_with fail
  refine (HC.out _ B4.out).mono ?_; rintro e w5 ⟨rfl, hb5⟩
  have B5 := Lib.hid (below_step B4.out hb5)
  clear hb5 B4
  go_wp2_with fail
  refine (HSI.out _).mono ?_; rintro e w6 ⟨rfl, hb6⟩
  have B6 := Lib.hid (below_step B5.out hb6)
  clear hb6 B5 HSI
  have hq := HPi.out.below B6.out
  have k0 := hq.1
  have k1 := hq.2.1
  have k2 := hq.2.2.1
  clear hq
  go_wp2_with fail
  refine (HL.out _ B6.out).mono ?_; rintro e w7 ⟨rfl, hb7⟩
  have B7 := Lib.hid (below_step B6.out hb7)
  clear hb7 HL B6 k0 k1 k2
  go_wp2_with fail
  refine (HC.out _ B7.out).mono ?_; rintro e w8 ⟨rfl, hb8⟩
  have B8 := Lib.hid (below_step B7.out hb8)
  clear hb8 HC B7
  go_wp2
  go_ret
  exact ⟨rfl, B8.out⟩
set_option maxHeartbeats 4000000 in
/-- The law where all is well but, perhaps, the number that a lit pixel is to be over. -/
theorem ground_fine (ad : Nat → Addr) {w : World} (hE : Sents w ad) (W H T : Nat) (over : Int) (f : Nat → Int) (b o : Nat) (a : Option Addr) (n cap : Nat) (hn : n ≤ 700) (hp : PicAt w b o W H a n cap f) (g : picG W H n f) (hT : 1 ≤ T) (hT2 : T ≤ 256)
    (hSm : ∀ W, Below w.heap.size w W → Calls Tryd.prog 7 #[.pointer (some ⟨b, o, none⟩)] W fun e w' => e = .returned (.bool true) ∧ W = w') :
    Calls Tryd.prog 4 #[.pointer (some ⟨b, o, none⟩), .int .i64 T, .int .i64 over] w fun e w' => e = .returned (.bool true) ∧ Below w.heap.size w w' := by
  have HS := Lib.hid (spotted_any ad w (hE.errs _ (by decide)))
  have HG := Lib.hid (fun w' (hb : Below w.heap.size w w') => ground_ok ad W H T f a n cap w' ((hE.errs _ (by decide)).below hb) (hp.2.2.2.below hb) g hT hT2)
  have HR := Lib.hid (fun w' (hb : Below w.heap.size w w') => groundOf_ok W H T f b o a n cap w' (hp.below hb) g hT hT2)
  have HO := Lib.hid (fun w' (hb : Below w.heap.size w w') => over_ok W H T f b o a n cap w' (hp.below hb) g hT hT2)
  have HL1 := Lib.hid (fun w' (hb : Below w.heap.size w w') (ho : over < 0) => lit_over ad W H T over f a n cap w' ((hE.errs _ (by decide)).below hb) (hp.2.2.2.below hb) g hT hT2 ho)
  have HL2 := Lib.hid (fun w' (hb : Below w.heap.size w w') (ho : 0 ≤ over) => lit_ok ad W H T over f a n cap w' ((hE.errs _ (by decide)).below hb) (hp.2.2.2.below hb) g hT hT2 ho)
  have HC0 := Lib.hid (fun w' => coded4_nil w')
  have HC4 := Lib.hid (fun w' (hb : Below w.heap.size w w') => coded4_err ad 4 5 (by decide) (by decide) w' (hE.below hb))
  have HSm := Lib.hid hSm
  have HPi := Lib.hid hp
  obtain ⟨n1, n2⟩ := area_bd g
  have tw1 := tiles_le W hT
  have th1 := tiles_le H hT
  have hW2 := g.2.1
  have hH2 := g.2.2.2.1
  have hNb := Nat.mul_le_mul (show tilesN W T ≤ 256 by omega) (show tilesN H T ≤ 256 by omega)
  have HSI := Lib.hid (fun w' x y c1 c2 h1 h2 => sameInts_any (fun k => (grdL W T f n (tilesN W T * tilesN H T)).getD k 0) (fun k => (grdL W T f n (tilesN W T * tilesN H T)).getD k 0) x y (tilesN W T * tilesN H T) c1 c2 (by omega) w' h1 h2 (fun _ _ => rfl))
  clear hE hSm hp g tw1 th1 hW2 hH2
  generalize tilesN W T * tilesN H T = N at *
  generalize (fun k => (grdL W T f n N).getD k 0) = gf at *
  generalize lessF W T f n = lf at *
  go_enter Tryd.func4, Tryd.ntmps4
  go_wp2_with fail
  refine HS.out.mono ?_; rintro e w1 ⟨rfl, hb1⟩
  have B1 := Lib.hid hb1
  clear hb1 HS
  go_wp2_with fail
  refine (HSm.out _ B1.out).mono ?_; rintro e w2 ⟨rfl, rfl⟩
  have hq := HPi.out.below B1.out
  have k0 := hq.1
  have k1 := hq.2.1
  have k2 := hq.2.2.1
  clear hq HSm
  go_wp2_with fail
  refine (HG.out _ B1.out).mono ?_; rintro e w3 ⟨ga, gc, rfl, hg3, hb3⟩
  have B3 := Lib.hid (below_step B1.out hb3)
  have HG3 := Lib.hid hg3
  clear hb3 HG k0 k1 k2 hg3
  go_wp2_with fail
  refine (HR.out _ B3.out).mono ?_; rintro e w4 ⟨ra, rc', rfl, hg4, hb4⟩
  have B4 := Lib.hid (below_step B3.out hb4)
  have HG4 := Lib.hid (HG3.out.below hb4)
  have HR4 := Lib.hid hg4
  clear hb4 HR hg4 HG3
  go_wp2_with fail
  refine (HC0.out _).mono ?_; rintro e w5 ⟨rfl, hb5⟩
  have B5 := Lib.hid (below_step B4.out hb5)
  have HS5 := Lib.hid (HSI.out w5 ga ra gc rc' (HG4.out.below hb5) (HR4.out.below hb5))
  clear hb5 HSI HG4 HR4
  go_wp2_with fail
  refine HS5.out.mono ?_; rintro e w6 ⟨rfl, hb6⟩
  have B6 := Lib.hid (below_step B5.out hb6)
  clear hb6 HS5
  have hq := HPi.out.below B6.out
  have k0 := hq.1
  have k1 := hq.2.1
  have k2 := hq.2.2.1
  clear hq
  by_cases ho : over < 0
  · have d1 : decide (over < 0) = true := by simpa using ho
    have HL := Lib.hid (HL1.out _ B6.out ho)
    unfold errV at HL HC4
    go_wp2_with fail
    refine HL.out.mono ?_; rintro e w7 ⟨rfl, hb7⟩
    have B7 := Lib.hid (below_step B6.out hb7)
    clear hb7 HL k0 k1 k2
    go_wp2_with fail
    refine (HC4.out _ B7.out).mono ?_; rintro e w8 ⟨rfl, hb8⟩
    have B8 := Lib.hid (below_step B7.out hb8)
    clear hb8
    go_wp2
    go_ret
    exact ⟨rfl, B8.out⟩
  · have d1 : decide (over < 0) = false := by simpa using ho
    have HL := Lib.hid (HL2.out _ B6.out (by omega))
    go_wp2_with fail
    refine HL.out.mono ?_; rintro e w7 ⟨gb, rfl, hbl, hb7⟩
    have B7 := Lib.hid (below_step B6.out hb7)
    have HB7 := Lib.hid hbl
    clear hb7 HL k0 k1 k2 hbl
    go_wp2_with fail
    refine (HC0.out _).mono ?_; rintro e w8 ⟨rfl, hb8⟩
    have B8 := Lib.hid (below_step B7.out hb8)
    have HB8 := Lib.hid (HB7.out.below hb8)
    clear hb8 HB7
    go_wp2_with fail
    refine (HO.out _ B8.out).mono ?_; rintro e w9 ⟨oa, oc, rfl, ho9, hb9⟩
    have B9 := Lib.hid (below_step B8.out hb9)
    have HB9 := Lib.hid (fun k (hk : k < n) => (HB8.out.below hb9).at hk)
    have HO9 := Lib.hid (fun k (hk : k < n) => ho9.at hk)
    clear hb9 ho9 HB8 HO
    go_wp2
    go_loopw [18] (fun i wr => ∃ k : Nat, k ≤ n ∧ i = .int .i64 k ∧ Hid (Below w9.heap.size w9 wr)) (fun i _ => n - (intOf i).toNat)
    case atStart => exact ⟨0, Nat.zero_le _, rfl, Lib.hid (Below.refl _ _)⟩
    case round =>
      obtain ⟨k, hk, rfl, hB⟩ := hrel
      by_cases hlt : k < n
      · obtain ⟨b1, o1, e1, hb1, c1⟩ := HB9.out k hlt
        cases e1
        obtain ⟨b2, o2, rfl, hb2, c2⟩ := HO9.out k hlt
        have q1 : wr.cell? ⟨gb, 0 + k, none⟩ = some (.bool (decide (over < lf k))) := by rw [hB.out.cell (p := ⟨gb, 0 + k, none⟩) hb1]; exact c1
        rw [Nat.zero_add] at q1
        have q2 : wr.cell? ⟨b2, o2 + k, none⟩ = some (.int .i64 (lf k)) := by rw [hB.out.cell (p := ⟨b2, o2 + k, none⟩) hb2]; exact c2
        clear c1 c2
        generalize lf k = x at *
        cases hx : decide (over < x) with
        | true =>
          rw [hx] at q1
          go_wp2
          go_quiet (fail)
          go_wp2
          go_roundw
          case rel => exact ⟨k + 1, by omega, by go_num, Lib.hid (below_drewN hB.out _)⟩
          case measure => simp [intOf]; omega
        | false =>
          rw [hx] at q1
          go_wp2
          go_quiet (fail)
          go_wp2
          go_roundw
          case rel => exact ⟨k + 1, by omega, by go_num, Lib.hid (below_drewN hB.out _)⟩
          case measure => simp [intOf]; omega
      · have BF := Lib.hid (below_step B9.out hB.out)
        go_wp2
        go_ret
        exact ⟨rfl, BF.out⟩
/-- The law where the picture is great, or none. -/
theorem ground_great (ad : Nat → Addr) {w : World} (hE : Sents w ad) (x : Option Addr) (T over : Int)
    (hSm : ∀ W, Below w.heap.size w W → Calls Tryd.prog 7 #[.pointer x] W fun e w' => e = .returned (.bool false) ∧ W = w') :
    Calls Tryd.prog 4 #[.pointer x, .int .i64 T, .int .i64 over] w fun e w' => e = .returned (.bool true) ∧ Below w.heap.size w w' := by
  have HS := Lib.hid (spotted_any ad w (hE.errs _ (by decide)))
  have HSm := Lib.hid hSm
  clear hE hSm
  go_enter Tryd.func4, Tryd.ntmps4
  go_wp2_with fail
  refine HS.out.mono ?_; rintro e w1 ⟨rfl, hb1⟩
  have B1 := Lib.hid hb1
  clear hb1 HS
  go_wp2_with fail
  refine (HSm.out _ B1.out).mono ?_; rintro e w2 ⟨rfl, rfl⟩
  go_wp2
  go_ret
  exact ⟨rfl, B1.out⟩
theorem spotsGround_any (ad : Nat → Addr) {w : World} (x0 : Option Addr) (h0 : PicP w x0) (T : Int) (_ : In64 T) (over : Int) (_ : In64 over) (hE : Sents w ad) :
    Calls Tryd.prog 4 #[.pointer x0, .int .i64 T, .int .i64 over] w fun e w' => e = .returned (.bool true) ∧ Below w.heap.size w w' := by
  obtain ⟨s, hs, hk⟩ := small_is h0
  cases s with
  | false => exact ground_great ad hE x0 T over hs
  | true =>
    obtain ⟨b, o, W, H, a, n, cap, f, rfl, hn, _, _, hp⟩ := hk rfl
    have he := fun w' (hb : Below w.heap.size w w') => (hE.errs [1, 4] (by decide)).below hb
    have hi := fun w' (hb : Below w.heap.size w w') => hp.2.2.2.below hb
    by_cases g : picG W H n f
    · by_cases hT : 1 ≤ T ∧ T ≤ 256
      · obtain ⟨V, rfl⟩ : ∃ V : Nat, W = (V : Int) := ⟨W.toNat, by have := g.1; omega⟩
        obtain ⟨K, rfl⟩ : ∃ K : Nat, H = (K : Int) := ⟨H.toNat, by have := g.2.2.1; omega⟩
        obtain ⟨t, rfl⟩ : ∃ t : Nat, T = (t : Int) := ⟨T.toNat, by omega⟩
        exact ground_fine ad hE V K t over f b o a n cap hn hp g (by omega) (by omega) hs
      · exact ground_bad ad hE W H T over f b o a n cap hn hp (errV ad 4) 5 (by decide)
          (fun w' hb => ground_shape ad W H T f a n cap w' (he w' hb) (hi w' hb) g (by omega))
          (fun w' hb => groundOf_shape W H T f b o a n cap w' (hp.below hb) g (by omega))
          (fun w' hb => lit_shape ad W H T over f a n cap w' (he w' hb) (hi w' hb) g (by omega))
          (fun w' hb => coded4_err ad 4 5 (by decide) (by decide) w' (hE.below hb)) hs
    · exact ground_bad ad hE W H T over f b o a n cap hn hp (errV ad (picB W H)) (picB W H + 1 : Nat) (by omega)
        (fun w' hb => ground_err ad W H T f a n cap w' (he w' hb) (hi w' hb) (by omega) g)
        (fun w' hb => groundOf_err W H T f b o a n cap w' (hp.below hb) (by omega) g)
        (fun w' hb => lit_err ad W H T over f a n cap w' (he w' hb) (hi w' hb) (by omega) g)
        (fun w' hb => coded4_err ad (picB W H) _ (picB_lt3 W H) (by omega) w' (hE.below hb)) hs
end Go.Proofs.YthbekddpnkammaaDoor
