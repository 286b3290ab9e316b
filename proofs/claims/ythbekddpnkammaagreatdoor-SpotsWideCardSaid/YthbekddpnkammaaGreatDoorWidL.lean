/- SpotsWide of package meridianlaw4: the law. -/
import Derived.Test.YthbekddpnkammaaGreatDoorWidE
import Derived.Test.YthbekddpnkammaaGreatDoorSpotd
import Derived.Test.YthbekddpnkammaaGreatDoorWidA
import Derived.Test.YthbekddpnkammaaGreatDoorSmall
import Derived.Test.YthbekddpnkammaaGreatDoorCoded4
namespace Go.Proofs.YthbekddpnkammaaGreatDoor
open Go.RowKit

theorem picB_lt4 (W H : Int) : picB W H < 10 := by unfold picB; split <;> omega
set_option maxHeartbeats 1000000 in
/-- A reference's spot turned into a program's. -/
theorem spot_any (s : Sp) (w : World) : Calls Tryz.prog 9 #[aggSp s] w fun e w' => e = .returned (aggSp s) ∧ Below w.heap.size w w' := by
  have HB0 : Hid (∀ o1 o2, Below w.heap.size w ((w.alloc o1).alloc o2)) := Lib.hid (fun o1 o2 => below2 o1 o2)
  obtain ⟨sL, sT, sR, sO, sP, sI, sX, sY, sS⟩ := s
  unfold aggSp
  go_enter Tryz.func9, Tryz.ntmps9
  go_wp2
  refine bodyPost_ret (v := .agg #[.int .i64 sL, .int .i64 sT, .int .i64 sR, .int .i64 sO, .int .i64 sP, .int .i64 sI, .int .i64 sX, .int .i64 sY, .int .i64 sS]) ?_ rfl ?_
  · simp [results, Tryz.results9, go_sem]
  refine ⟨rfl, ?_⟩
  repeat' first | exact HB0.out _ _ | with_reducible refine Below.drew ?_ | with_reducible refine Below.setCell ?_ (by simp) _
/-- The nine cells of the box, behind a call. -/
theorem wide_box9 {w wa : World} {sL sT sR sO sP sI sX sY sS : Int} {u : TypeId} (hb : Below (w.alloc (.cells #[.int .i64 sL, .int .i64 sT, .int .i64 sR, .int .i64 sO, .int .i64 sP, .int .i64 sI, .int .i64 sX, .int .i64 sY, .int .i64 sS] u)).heap.size (w.alloc (.cells #[.int .i64 sL, .int .i64 sT, .int .i64 sR, .int .i64 sO, .int .i64 sP, .int .i64 sI, .int .i64 sX, .int .i64 sY, .int .i64 sS] u)) wa) :
    wa.cell? ⟨w.heap.size, 0, none⟩ = some (.int .i64 sL) ∧ wa.cell? ⟨w.heap.size, 1, none⟩ = some (.int .i64 sT) ∧ wa.cell? ⟨w.heap.size, 2, none⟩ = some (.int .i64 sR) ∧ wa.cell? ⟨w.heap.size, 3, none⟩ = some (.int .i64 sO) ∧ wa.cell? ⟨w.heap.size, 4, none⟩ = some (.int .i64 sP) ∧ wa.cell? ⟨w.heap.size, 5, none⟩ = some (.int .i64 sI) ∧ wa.cell? ⟨w.heap.size, 6, none⟩ = some (.int .i64 sX) ∧ wa.cell? ⟨w.heap.size, 7, none⟩ = some (.int .i64 sY) ∧ wa.cell? ⟨w.heap.size, 8, none⟩ = some (.int .i64 sS) := by
  refine ⟨?_, ?_, ?_, ?_, ?_, ?_, ?_, ?_, ?_⟩
  · rw [hb.cell (p := ⟨w.heap.size, 0, none⟩) (by simp)]; simp
  · rw [hb.cell (p := ⟨w.heap.size, 1, none⟩) (by simp)]; simp
  · rw [hb.cell (p := ⟨w.heap.size, 2, none⟩) (by simp)]; simp
  · rw [hb.cell (p := ⟨w.heap.size, 3, none⟩) (by simp)]; simp
  · rw [hb.cell (p := ⟨w.heap.size, 4, none⟩) (by simp)]; simp
  · rw [hb.cell (p := ⟨w.heap.size, 5, none⟩) (by simp)]; simp
  · rw [hb.cell (p := ⟨w.heap.size, 6, none⟩) (by simp)]; simp
  · rw [hb.cell (p := ⟨w.heap.size, 7, none⟩) (by simp)]; simp
  · rw [hb.cell (p := ⟨w.heap.size, 8, none⟩) (by simp)]; simp
set_option maxRecDepth 10000 in
set_option maxHeartbeats 4000000 in
/-- The law, where both have one and the same answer. -/
theorem wide_same (ad : Nat → Addr) {w : World} (hE : Sents w ad) (W H share : Int) (s : Sp) (f : Nat → Int) (b o : Nat) (a : Option Addr) (n cap : Nat) (hn : n ≤ 200) (hp : PicAt w b o W H a n cap f) (ev : Value) (e0 : Int) (R : Int → Prop) (hR1 : ∀ u v, R u → R v → u = v)
    (hF : ∀ w', Below w.heap.size w w' → Calls Tryz.prog 8 #[.agg #[.int .i64 W, .int .i64 H, .slice a n cap], aggSp s, .int .i64 share] w' fun e w'' => (∃ v, e = .returned (.tuple #[.int .i64 v, ev]) ∧ R v) ∧ Below w'.heap.size w' w'')
    (hR : ∀ w', Below w.heap.size w w' → Calls Tryz.prog 10 #[.pointer (some ⟨b, o, none⟩), aggSp s, .int .i64 share] w' fun e w'' => (∃ v, e = .returned (.tuple #[.int .i64 v, .int .i64 e0]) ∧ R v) ∧ Below w'.heap.size w' w'')
    (hC : ∀ w', Below w.heap.size w w' → Calls Tryz.prog 11 #[ev, .int .i64 e0] w' fun e w'' => e = .returned (.bool true) ∧ Below w'.heap.size w' w'')
    (hSm : ∀ W, Below w.heap.size w W → Calls Tryz.prog 7 #[.pointer (some ⟨b, o, none⟩)] W fun e w' => e = .returned (.bool true) ∧ W = w') :
    Calls Tryz.prog 3 #[.pointer (some ⟨b, o, none⟩), aggSp s, .int .i64 share] w fun e w' => e = .returned (.bool true) ∧ Below w.heap.size w w' := by
  have hb0 : ∀ o', Below w.heap.size w (w.alloc o') := fun o' => (Below.refl _ _).alloc (Nat.le_refl _) _
  have HS := Lib.hid (fun o' => spotted_any ad (w.alloc o') ((hE.errs _ (by decide)).below (hb0 o')))
  have HB0 := Lib.hid hb0
  have HF := Lib.hid hF
  have HR := Lib.hid hR
  have HR1 := Lib.hid hR1
  have HC := Lib.hid hC
  have HSm := Lib.hid hSm
  have HPi := Lib.hid hp
  have HSp := Lib.hid (fun w' => spot_any s w')
  clear hE hF hR hC hSm hp hR1 hb0
  obtain ⟨sL, sT, sR, sO, sP, sI, sX, sY, sS⟩ := s
  unfold aggSp at *
  go_enter Tryz.func3, Tryz.ntmps3
  go_wp2_with fail
  refine (HS.out _).mono ?_; rintro e w1 ⟨rfl, hb1⟩
  have B1 := Lib.hid (below_step (HB0.out _) hb1)
  have hq9 := wide_box9 hb1
  clear hb1 HS
  go_wp2_with fail
  refine (HSm.out _ B1.out).mono ?_; rintro e w2 ⟨rfl, rfl⟩
  have hq := HPi.out.below B1.out
  have HK : Hid (∀ W', Below w1.heap.size w1 W' → (W'.cell? ⟨b, o, none⟩ = some (.int .i64 W) ∧ W'.cell? ⟨b, o + 1, none⟩ = some (.int .i64 H) ∧ W'.cell? ⟨b, o + 2, none⟩ = some (.slice a n cap)) ∧ W'.cell? ⟨w.heap.size, 0, none⟩ = some (.int .i64 sL) ∧ W'.cell? ⟨w.heap.size, 1, none⟩ = some (.int .i64 sT) ∧ W'.cell? ⟨w.heap.size, 2, none⟩ = some (.int .i64 sR) ∧ W'.cell? ⟨w.heap.size, 3, none⟩ = some (.int .i64 sO) ∧ W'.cell? ⟨w.heap.size, 4, none⟩ = some (.int .i64 sP) ∧ W'.cell? ⟨w.heap.size, 5, none⟩ = some (.int .i64 sI) ∧ W'.cell? ⟨w.heap.size, 6, none⟩ = some (.int .i64 sX) ∧ W'.cell? ⟨w.heap.size, 7, none⟩ = some (.int .i64 sY) ∧ W'.cell? ⟨w.heap.size, 8, none⟩ = some (.int .i64 sS)) := Lib.hid (fun W' hb => by
    obtain ⟨q0, q1, q2, q3, q4, q5, q6, q7, q8⟩ := hq9
    have hl := cell_lt q0
    have hq2 := hq.below hb
    refine ⟨⟨hq2.1, hq2.2.1, hq2.2.2.1⟩, ?_, ?_, ?_, ?_, ?_, ?_, ?_, ?_, ?_⟩
    · rw [hb.cell (p := ⟨w.heap.size, 0, none⟩) hl]; exact q0
    · rw [hb.cell (p := ⟨w.heap.size, 1, none⟩) hl]; exact q1
    · rw [hb.cell (p := ⟨w.heap.size, 2, none⟩) hl]; exact q2
    · rw [hb.cell (p := ⟨w.heap.size, 3, none⟩) hl]; exact q3
    · rw [hb.cell (p := ⟨w.heap.size, 4, none⟩) hl]; exact q4
    · rw [hb.cell (p := ⟨w.heap.size, 5, none⟩) hl]; exact q5
    · rw [hb.cell (p := ⟨w.heap.size, 6, none⟩) hl]; exact q6
    · rw [hb.cell (p := ⟨w.heap.size, 7, none⟩) hl]; exact q7
    · rw [hb.cell (p := ⟨w.heap.size, 8, none⟩) hl]; exact q8)
  clear hq hq9 HSm
  obtain ⟨⟨k0, k1, k2⟩, q0, q1, q2, q3, q4, q5, q6, q7, q8⟩ := HK.out w1 (Below.refl _ _)
  have HS0 := Lib.hid (HK.out w1 (Below.refl _ _))
  have HS1 := Lib.hid (HK.out w1.drew (Below.refl _ _).drew)
  have HS3 := Lib.hid (fun w3 (hb : Below w1.drew.heap.size w1.drew w3) => HK.out w3 (below_step (Below.refl _ _).drew hb))
  have HFw := Lib.hid (fun w3 (hb : Below w1.drew.heap.size w1.drew w3) => HF.out w3 (below_step B1.out.drew hb))
  have HS4 := Lib.hid (fun w3 w4 (hb : Below w1.drew.heap.size w1.drew w3) (hb4 : Below w3.heap.size w3 w4) => HK.out w4 (below_step (below_step (Below.refl _ _).drew hb) hb4))
  have HB4 := Lib.hid (fun w3 w4 (hb : Below w1.drew.heap.size w1.drew w3) (hb4 : Below w3.heap.size w3 w4) => below_step (below_step (Below.refl w1.heap.size w1).drew hb) hb4)
  clear HF
  go_wp2
  go_region_held3 (fun w' => (w'.cell? ⟨b, o, none⟩ = some (.int .i64 W) ∧ w'.cell? ⟨b, o + 1, none⟩ = some (.int .i64 H) ∧ w'.cell? ⟨b, o + 2, none⟩ = some (.slice a n cap)) ∧ w'.cell? ⟨w.heap.size, 0, none⟩ = some (.int .i64 sL) ∧ w'.cell? ⟨w.heap.size, 1, none⟩ = some (.int .i64 sT) ∧ w'.cell? ⟨w.heap.size, 2, none⟩ = some (.int .i64 sR) ∧ w'.cell? ⟨w.heap.size, 3, none⟩ = some (.int .i64 sO) ∧ w'.cell? ⟨w.heap.size, 4, none⟩ = some (.int .i64 sP) ∧ w'.cell? ⟨w.heap.size, 5, none⟩ = some (.int .i64 sI) ∧ w'.cell? ⟨w.heap.size, 6, none⟩ = some (.int .i64 sX) ∧ w'.cell? ⟨w.heap.size, 7, none⟩ = some (.int .i64 sY) ∧ w'.cell? ⟨w.heap.size, 8, none⟩ = some (.int .i64 sS))
    (first | (exact HS4.out _ _ hb3 hb4) | (exact HS3.out _ hb3) | (exact HS0.out) | (exact HS1.out) | go_keep)
    (first | (go_at_call 9; with_reducible refine (HSp.out _).mono ?_; rintro e w3 ⟨rfl, hb3⟩) | (go_at_call 8; with_reducible refine (HFw.out _ hb3).mono ?_; rintro e w4 ⟨⟨v, rfl, hv⟩, hb4⟩))
  all_goals
    have B4 := Lib.hid (below_step B1.out (HB4.out _ _ hb3 hb4))
    obtain ⟨⟨k0, k1, k2⟩, q0, q1, q2, q3, q4, q5, q6, q7, q8⟩ := HS4.out _ _ hb3 hb4
    have HV := Lib.hid hv
    clear hb3 hb4 HS0 HS1 HS3 HFw HS4 HB4 B1 HSp HK hv
    go_wp2_with fail
    refine (HR.out _ B4.out).mono ?_; rintro e w5 ⟨⟨v2, rfl, hv2⟩, hb5⟩
    obtain rfl := HR1.out _ _ HV.out hv2
    have B5 := Lib.hid (below_step B4.out hb5)
    clear hb5 B4 HR hv2 HV HR1 k0 k1 k2 q0 q1 q2 q3 q4 q5 q6 q7 q8
    go_wp2_with fail
    refine (HC.out _ B5.out).mono ?_; rintro e w6 ⟨rfl, hb6⟩
    have B6 := Lib.hid (below_step B5.out hb6)
    clear hb6 B5 HC
    go_wp2
    go_ret
    exact ⟨rfl, B6.out⟩
set_option maxHeartbeats 1000000 in
/-- The law where the picture is great, or none. -/
theorem wide_great (ad : Nat → Addr) {w : World} (hE : Sents w ad) (x : Option Addr) (s : Sp) (share : Int)
    (hSm : ∀ W, Below w.heap.size w W → Calls Tryz.prog 7 #[.pointer x] W fun e w' => e = .returned (.bool false) ∧ W = w') :
    Calls Tryz.prog 3 #[.pointer x, aggSp s, .int .i64 share] w fun e w' => e = .returned (.bool true) ∧ Below w.heap.size w w' := by
  have hb0 : ∀ o', Below w.heap.size w (w.alloc o') := fun o' => (Below.refl _ _).alloc (Nat.le_refl _) _
  have HS := Lib.hid (fun o' => spotted_any ad (w.alloc o') ((hE.errs _ (by decide)).below (hb0 o')))
  have HB0 := Lib.hid hb0
  have HSm := Lib.hid hSm
  clear hE hSm hb0
  obtain ⟨sL, sT, sR, sO, sP, sI, sX, sY, sS⟩ := s
  unfold aggSp at *
  go_enter Tryz.func3, Tryz.ntmps3
  go_wp2_with fail
  refine (HS.out _).mono ?_; rintro e w1 ⟨rfl, hb1⟩
  have B1 := Lib.hid (below_step (HB0.out _) hb1)
  clear hb1 HS
  go_wp2_with fail
  refine (HSm.out _ B1.out).mono ?_; rintro e w2 ⟨rfl, rfl⟩
  go_wp2
  go_ret
  exact ⟨rfl, B1.out⟩
set_option maxHeartbeats 1000000 in
/-- The law where there are more pixels than are asked. -/
theorem wide_many (ad : Nat → Addr) {w : World} (hE : Sents w ad) (W H share : Int) (s : Sp) (f : Nat → Int) (b o : Nat) (a : Option Addr) (n cap : Nat) (hn : ¬ n ≤ 200) (hp : PicAt w b o W H a n cap f)
    (hSm : ∀ W, Below w.heap.size w W → Calls Tryz.prog 7 #[.pointer (some ⟨b, o, none⟩)] W fun e w' => e = .returned (.bool true) ∧ W = w') :
    Calls Tryz.prog 3 #[.pointer (some ⟨b, o, none⟩), aggSp s, .int .i64 share] w fun e w' => e = .returned (.bool true) ∧ Below w.heap.size w w' := by
  have hb0 : ∀ o', Below w.heap.size w (w.alloc o') := fun o' => (Below.refl _ _).alloc (Nat.le_refl _) _
  have HS := Lib.hid (fun o' => spotted_any ad (w.alloc o') ((hE.errs _ (by decide)).below (hb0 o')))
  have HB0 := Lib.hid hb0
  have HSm := Lib.hid hSm
  have HPi := Lib.hid hp
  have hn2 : 200 < n := by omega
  clear hE hSm hb0 hp hn
  obtain ⟨sL, sT, sR, sO, sP, sI, sX, sY, sS⟩ := s
  unfold aggSp at *
  go_enter Tryz.func3, Tryz.ntmps3
  go_wp2_with fail
  refine (HS.out _).mono ?_; rintro e w1 ⟨rfl, hb1⟩
  have B1 := Lib.hid (below_step (HB0.out _) hb1)
  clear hb1 HS
  go_wp2_with fail
  refine (HSm.out _ B1.out).mono ?_; rintro e w2 ⟨rfl, rfl⟩
  have hq := HPi.out.below B1.out
  have k0 := hq.1
  have k1 := hq.2.1
  have k2 := hq.2.2.1
  clear hq HSm
  go_wp2
  go_ret
  exact ⟨rfl, B1.out⟩
/-- A spot whose box lies in the picture. -/
theorem wid_box {V K : Nat} {n : Nat} {f : Nat → Int} {s : Sp} {share : Int} (g : picG V K n f) (h : widOk V K s share) :
    ∃ L R T O bw bh : Nat, s.L = L ∧ s.R = R ∧ s.T = T ∧ s.Lo = O ∧ R + 1 = L + bw ∧ O + 1 = T + bh ∧ InBox V K n L T bw bh := by
  obtain ⟨h1, h2, h3, h4, h5, h6, h7, h8, _⟩ := h
  obtain ⟨g1, g2, g3, g4, g5, _⟩ := g
  refine ⟨s.L.toNat, s.R.toNat, s.T.toNat, s.Lo.toNat, s.R.toNat + 1 - s.L.toNat, s.Lo.toNat + 1 - s.T.toNat, by omega, by omega, by omega, by omega, by omega, by omega, ⟨?_, by omega, by omega, by omega, by omega, by omega⟩⟩
  have e : (n : Int) = ((V * K : Nat) : Int) := by rw [g5]; push_cast; rfl
  rw [Nat.mul_comm]; omega
theorem spotsWide_any (ad : Nat → Addr) {w : World} (x0 : Option Addr) (h0 : PicP w x0) (s : Sp) (share : Int) (_ : In64 share) (hE : Sents w ad) :
    Calls Tryz.prog 3 #[.pointer x0, aggSp s, .int .i64 share] w fun e w' => e = .returned (.bool true) ∧ Below w.heap.size w w' := by
  obtain ⟨z, hs, hk⟩ := small_is h0
  cases z with
  | false => exact wide_great ad hE x0 s share hs
  | true =>
    obtain ⟨b, o, W, H, a, n, cap, f, rfl, hn, _, _, hp⟩ := hk rfl
    by_cases hn2 : n ≤ 200
    · have he := fun w' (hb : Below w.heap.size w w') => (hE.errs [1, 4] (by decide)).below hb
      have hi := fun w' (hb : Below w.heap.size w w') => hp.2.2.2.below hb
      by_cases g : picG W H n f
      · obtain ⟨V, rfl⟩ : ∃ V : Nat, W = (V : Int) := ⟨W.toNat, by have := g.1; omega⟩
        obtain ⟨K, rfl⟩ : ∃ K : Nat, H = (K : Int) := ⟨H.toNat, by have := g.2.2.1; omega⟩
        by_cases ok : widOk V K s share
        · obtain ⟨L, R, T, O, bw, bh, eL, eR, eT, eO, hR, hO, hB⟩ := wid_box g ok
          obtain ⟨s1, s2, _, _, _, _, _, _, X0, X1, Y0, Y1⟩ := ok
          have hW := fun w' (hb : Below w.heap.size w w') => wide_okI ad V K V K s.L s.T s.R s.Lo L R T O bw bh s.P s.Li s.X s.Y s.SL share f a n cap w' ((hE.errs [1, 4, 8] (by decide)).below hb) (hi w' hb) g rfl rfl eL eR eT eO s1 s2 hR hO hB X0 X1 Y0 Y1
          have hQ := fun w' (hb : Below w.heap.size w w') => reach_okI V K V K s.L s.T s.R s.Lo L R T O bw bh s.P s.Li s.X s.Y s.SL share f b o a n cap w' (hp.below hb) g rfl rfl eL eR eT eO s1 s2 hR hO hB X0 X1 Y0 Y1
          generalize boxP (ringG s.X s.Y V L T f) bw bh 0 = LL at *
          by_cases c0 : sumN LL = 0
          · refine wide_same ad hE V K share s f b o a n cap hn2 hp (errV ad 8) 9 (fun v => v = 0) (fun u v h1 h2 => h1.trans h2.symm) (fun w' hb => (hW w' hb).mono ?_) (fun w' hb => (hQ w' hb).mono ?_) (fun w' hb => coded4_err ad 8 9 (by decide) (by decide) w' (hE.below hb)) hs
            · rintro e w'' ⟨hr, hB⟩
              rcases hr with ⟨_, rfl⟩ | ⟨h, _⟩
              · exact ⟨⟨0, rfl, rfl⟩, hB⟩
              · exact absurd c0 h
            · rintro e w'' ⟨hr, hB⟩
              rcases hr with ⟨_, rfl⟩ | ⟨h, _⟩
              · exact ⟨⟨0, rfl, rfl⟩, hB⟩
              · exact absurd c0 h
          · refine wide_same ad hE V K share s f b o a n cap hn2 hp .nilIface 0 (fun v => LeastD LL (Enough share (sumN LL) LL) v) (fun u v h1 h2 => leastD_one h1 h2) (fun w' hb => (hW w' hb).mono ?_) (fun w' hb => (hQ w' hb).mono ?_) (fun w' hb => coded4_nil w') hs
            · rintro e w'' ⟨hr, hB⟩
              rcases hr with ⟨h, _⟩ | ⟨_, v, rfl, hv⟩
              · exact absurd h c0
              · exact ⟨⟨v, rfl, hv⟩, hB⟩
            · rintro e w'' ⟨hr, hB⟩
              rcases hr with ⟨h, _⟩ | ⟨_, v, rfl, hv⟩
              · exact absurd h c0
              · exact ⟨⟨v, rfl, hv⟩, hB⟩
        · exact wide_same ad hE V K share s f b o a n cap hn2 hp (errV ad 4) 5 (fun v => v = 0) (fun u v h1 h2 => h1.trans h2.symm)
            (fun w' hb => (wide_shape ad V K share s f a n cap w' (he w' hb) (hi w' hb) g ok).mono fun e w'' ⟨h, hB⟩ => ⟨⟨0, h, rfl⟩, hB⟩)
            (fun w' hb => (reach_shape V K share s f b o a n cap w' (hp.below hb) g ok).mono fun e w'' ⟨h, hB⟩ => ⟨⟨0, h, rfl⟩, hB⟩)
            (fun w' hb => coded4_err ad 4 5 (by decide) (by decide) w' (hE.below hb)) hs
      · exact wide_same ad hE W H share s f b o a n cap hn2 hp (errV ad (picB W H)) (picB W H + 1 : Nat) (fun v => v = 0) (fun u v h1 h2 => h1.trans h2.symm)
          (fun w' hb => (wide_err ad W H share s f a n cap w' (he w' hb) (hi w' hb) (by omega) g).mono fun e w'' ⟨h, hB⟩ => ⟨⟨0, h, rfl⟩, hB⟩)
          (fun w' hb => (reach_err W H share s f b o a n cap w' (hp.below hb) (by omega) g).mono fun e w'' ⟨h, hB⟩ => ⟨⟨0, h, rfl⟩, hB⟩)
          (fun w' hb => coded4_err ad (picB W H) _ (picB_lt4 W H) (by omega) w' (hE.below hb)) hs
    · exact wide_many ad hE W H share s f b o a n cap hn2 hp hs
end Go.Proofs.YthbekddpnkammaaGreatDoor
