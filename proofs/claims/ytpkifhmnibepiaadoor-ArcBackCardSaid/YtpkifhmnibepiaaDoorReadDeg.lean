/- arc.ReadDegrees. -/
import Derived.Test.YtpkifhmnibepiaaDoorReadP
namespace Go.Proofs.YtpkifhmnibepiaaDoor
open Go.RowKit

set_option maxRecDepth 20000 in
set_option maxHeartbeats 8000000 in
theorem readDeg_neg (s : ByteArray) (hs : s.size ≤ 1000000) (ad : Addr) (w : World) (hE : w.cell? ⟨0, 0, none⟩ = some (.iface 258 (.pointer (some ad)))) (h0 : seeF (runes s).length (runeL s) 0 = 45) :
    Calls Tryd.prog 14 #[.string s] w (ReadP w ad (degO (seeF (runes s).length (runeL s)) (runes s).length)) := by
  have hmf : ∀ (fn : Fn) (first cap : Array Value) (w : World), (Instr.makeFunc fn first cap).run Tryd.prog w = .ok (.func fn first cap) w := fun _ _ _ _ => rfl
  obtain ⟨cap, X, hcv, hX⟩ := conv_runes s hs ((w.alloc (.cells #[.int .i64 0] 3)).alloc (.cells #[.nilIface] 23))
  have hl := runes_length s
  have R0 := Lib.hid (RD.start (w := w) (cap := cap) (by omega) hX)
  have HE := Lib.hid hE
  have HEB : Hid (0 < w.heap.size) := Lib.hid (cell_lt hE)
  have E0 : Hid (degO (seeF (runes s).length (runeL s)) (runes s).length = (match numO (seeF (runes s).length (runeL s)) 1 6 1 with | .bad k => .bad k | .ok d k => if seeF (runes s).length (runeL s) k = 176 then (match restO (seeF (runes s).length (runeL s)) (runes s).length 8242 8243 (k + 1) with | .bad k => .bad k | .ok n k => .ok (-(d * 3600000000 + n)) k) else .bad k)) := Lib.hid (by unfold degO; rw [if_pos (Or.inl h0)]; simp only [if_pos h0]; rfl)
  clear hE hX
  generalize (runes s).length = N at *
  generalize runeL s = L at *
  go_enter_defers Tryd.func14, Tryd.ntmps14
  go_wp2_with fail
  refine (take_yes R0.out.ok 0 45 (by omega) _ R0.out.sc h0).mono ?_; rintro e w1 ⟨rfl, hlt1, hr1⟩
  have R1 := Lib.hid (R0.out.step hr1)
  clear hr1 R0 hcv h0
  go_wp2_with fail
  have P1 := number_any R1.out.ok 1 6 1 (by omega) (by omega) w1 R1.out.sc
  cases hn : numO (seeF N L) 1 6 1 with
  | bad k1 =>
    rw [hn] at P1 E0
    refine P1.mono ?_; rintro e w2 ⟨rfl, hr2⟩
    have R2 := Lib.hid (R1.out.step hr2)
    clear hr2 P1 R1 hn
    go_wp2
    refine leaves_cons (f := 61) (args := #[.pointer (some ⟨w.heap.size, 0, none⟩), .pointer (some ⟨w.heap.size + 1, 0, none⟩)]) (by simp) (by simp [go_sem]) ?_
    refine (degCl_stop k1 _ _ _ ad _ R2.out.n R2.out.nf R2.out.e R2.out.ef (by simp) (by rw [R2.out.below.cell (p := ⟨0, 0, none⟩) HEB.out]; exact HE.out)).mono ?_
    rintro e u' w'' ⟨rfl, rfl, rfl⟩
    obtain ⟨WF, eW, c1, c2, c3, c4, c5, c6⟩ := R2.out.fault k1 ad
    rw [eW, E0.out]
    have HF : Hid (ReadP w ad (.bad k1) (.returned (.tuple #[.int .i64 0, .iface 125 (.pointer (some ⟨w2.heap.size, 0, none⟩))])) WF) := Lib.hid ⟨w2.heap.size, c5, rfl, c3, c4, c6⟩
    clear eW c3 c4 c5 c6
    simp [Leaves, settle, results, Tryd.results14, go_sem, c1, c2]
    exact HF.out
  | ok d k1 =>
    rw [hn] at P1 E0
    obtain ⟨c, hc, -, hd0, hd1⟩ := numO_inv hn
    have hd2 := pow10_le c (by omega)
    have hd3 : d < 1000000 := by omega
    refine P1.mono ?_; rintro e w2 ⟨rfl, hr2⟩
    have R2 := Lib.hid (R1.out.step hr2)
    clear hr2 P1 R1 hn hd1 hd2
    have c2 := R2.out.n
    have f2 := R2.out.nf
    go_wp2_with fail
    have R3 := Lib.hid (R2.out.put (d * 3600000000))
    clear c2 f2 R2
    generalize w2.setCell ⟨w.heap.size, 0, none⟩ (.int .i64 (d * 3600000000)) = w3 at *
    by_cases hy : seeF N L k1 = 176
    · have E1 : Hid (degO (seeF N L) N = (match restO (seeF N L) N 8242 8243 (k1 + 1) with | .bad k => .bad k | .ok n k => .ok (-(d * 3600000000 + n)) k)) := Lib.hid (by rw [E0.out]; exact if_pos hy)
      refine (need_yes R3.out.ok k1 176 (by omega) _ R3.out.sc hy).mono ?_; rintro e w4 ⟨rfl, hlt4, hr4⟩
      have R4 := Lib.hid (R3.out.step hr4)
      clear hr4 R3 hy E0
      go_wp2
      have c4 := R4.out.n
      have HS := Lib.hid (fun w h => rest_any (cap := cap) R4.out.drew.ok 8242 8243 (by omega) (by omega) (k1 + 1) w h)
      cases hr : restO (seeF N L) N 8242 8243 (k1 + 1) with
      | bad k5 =>
        rw [hr] at HS E1
        clear hr
        refine wp_region_any (by kernel_rfl) ?_
        change wpAny _ _ _ _ _ _ _ (World.drew _)
        refine wpAny_ready (rs := [0, 1]) (by kernel_rfl) (by simp) ?_
        refine AllReady.cons rfl (fun K hK => ?_) (AllReady.cons rfl (fun K hK => ?_) AllReady.nil)
        · go_simp
          refine hK _ _ ?_; clear hK K
          refine wpAny_ready (rs := [1]) (by kernel_rfl) (by simp) ?_
          refine AllReady.cons rfl (fun K hK => ?_) AllReady.nil
          go_simp
          refine hK _ _ ?_; clear hK K
          refine wpAny_ready (rs := [2]) (by kernel_rfl) (by simp) ?_
          refine AllReady.cons rfl (fun K hK => ?_) AllReady.nil
          go_simp
          refine (HS.out _ R4.out.drew.sc).mono ?_; rintro e w5 ⟨rfl, hr5⟩
          have R5 := Lib.hid (R4.out.drew.step hr5)
          clear hr5 HS hK
          go_wp2
          refine leaves_cons (f := 61) (args := #[.pointer (some ⟨w.heap.size, 0, none⟩), .pointer (some ⟨w.heap.size + 1, 0, none⟩)]) (by simp) (by simp [go_sem]) ?_
          refine (degCl_stop k5 _ _ _ ad _ R5.out.n R5.out.nf R5.out.e R5.out.ef (by simp) (by rw [R5.out.below.cell (p := ⟨0, 0, none⟩) HEB.out]; exact HE.out)).mono ?_
          rintro e u' w'' ⟨rfl, rfl, rfl⟩
          obtain ⟨WF, eW, c1, c2, c3, c4, c5, c6⟩ := R5.out.fault k5 ad
          rw [eW, E1.out]
          have HF : Hid (ReadP w ad (.bad k5) (.returned (.tuple #[.int .i64 0, .iface 125 (.pointer (some ⟨w5.heap.size, 0, none⟩))])) WF) := Lib.hid ⟨w5.heap.size, c5, rfl, c3, c4, c6⟩
          clear eW c3 c4 c5 c6
          simp [Leaves, settle, results, Tryd.results14, go_sem, c1, c2]
          exact HF.out
        · go_simp
          refine hK _ _ ?_; clear hK K
          refine wpAny_ready (rs := [0, 2]) (by kernel_rfl) (by simp) ?_
          refine AllReady.cons rfl (fun K hK => ?_) (AllReady.cons rfl (fun K hK => ?_) AllReady.nil)
          · go_simp
            refine hK _ _ ?_; clear hK K
            refine wpAny_ready (rs := [2]) (by kernel_rfl) (by simp) ?_
            refine AllReady.cons rfl (fun K hK => ?_) AllReady.nil
            go_simp
            refine (HS.out _ R4.out.drew.sc).mono ?_; rintro e w5 ⟨rfl, hr5⟩
            have R5 := Lib.hid (R4.out.drew.step hr5)
            clear hr5 HS hK
            go_wp2
            refine leaves_cons (f := 61) (args := #[.pointer (some ⟨w.heap.size, 0, none⟩), .pointer (some ⟨w.heap.size + 1, 0, none⟩)]) (by simp) (by simp [go_sem]) ?_
            refine (degCl_stop k5 _ _ _ ad _ R5.out.n R5.out.nf R5.out.e R5.out.ef (by simp) (by rw [R5.out.below.cell (p := ⟨0, 0, none⟩) HEB.out]; exact HE.out)).mono ?_
            rintro e u' w'' ⟨rfl, rfl, rfl⟩
            obtain ⟨WF, eW, c1, c2, c3, c4, c5, c6⟩ := R5.out.fault k5 ad
            rw [eW, E1.out]
            have HF : Hid (ReadP w ad (.bad k5) (.returned (.tuple #[.int .i64 0, .iface 125 (.pointer (some ⟨w5.heap.size, 0, none⟩))])) WF) := Lib.hid ⟨w5.heap.size, c5, rfl, c3, c4, c6⟩
            clear eW c3 c4 c5 c6
            simp [Leaves, settle, results, Tryd.results14, go_sem, c1, c2]
            exact HF.out
          · go_simp
            refine (HS.out _ R4.out.drew.sc).mono ?_; rintro e w5 ⟨rfl, hr5⟩
            have R5 := Lib.hid (R4.out.drew.step hr5)
            clear hr5 HS hK
            go_wp2
            refine leaves_cons (f := 61) (args := #[.pointer (some ⟨w.heap.size, 0, none⟩), .pointer (some ⟨w.heap.size + 1, 0, none⟩)]) (by simp) (by simp [go_sem]) ?_
            refine (degCl_stop k5 _ _ _ ad _ R5.out.n R5.out.nf R5.out.e R5.out.ef (by simp) (by rw [R5.out.below.cell (p := ⟨0, 0, none⟩) HEB.out]; exact HE.out)).mono ?_
            rintro e u' w'' ⟨rfl, rfl, rfl⟩
            obtain ⟨WF, eW, c1, c2, c3, c4, c5, c6⟩ := R5.out.fault k5 ad
            rw [eW, E1.out]
            have HF : Hid (ReadP w ad (.bad k5) (.returned (.tuple #[.int .i64 0, .iface 125 (.pointer (some ⟨w5.heap.size, 0, none⟩))])) WF) := Lib.hid ⟨w5.heap.size, c5, rfl, c3, c4, c6⟩
            clear eW c3 c4 c5 c6
            simp [Leaves, settle, results, Tryd.results14, go_sem, c1, c2]
            exact HF.out
      | ok n k5 =>
        rw [hr] at HS E1
        have hnb := restO_bd hr
        obtain ⟨hn0, hn1⟩ := hnb
        clear hr
        have q1 : IntKind.i64.wrap (d * 3600000000 + n) = d * 3600000000 + n := IntWalk.i64_in _ (by omega)
        refine wp_region_noPanic ?_
        go_region_with (refine (HS.out _ R4.out.drew.sc).mono ?_; rintro e w5 ⟨rfl, hr5⟩; have R5 := Lib.hid (R4.out.drew.step hr5); have c5 := R5.out.n; have f5 := R5.out.nf; clear hr5)
        all_goals
          refine NoPanic.normal ?_
          clear q1 c4 c5 f5
          have R6 := Lib.hid (R5.out.put (d * 3600000000 + n))
          generalize w5.setCell ⟨w.heap.size, 0, none⟩ (.int .i64 (d * 3600000000 + n)) = w6 at *
          have c6 := R6.out.n
          have f6 := R6.out.nf
          have e6 := R6.out.e
          have g6 := R6.out.ef
          go_wp2
          refine leaves_cons (f := 61) (args := #[.pointer (some ⟨w.heap.size, 0, none⟩), .pointer (some ⟨w.heap.size + 1, 0, none⟩)]) (by simp) (by simp [go_sem]) ?_
          refine (degCl_idle ⟨w.heap.size, 0, none⟩ ⟨w.heap.size + 1, 0, none⟩ _).mono ?_
          rintro e u' w'' ⟨rfl, rfl, rfl⟩
          obtain ⟨WF, eW, c1, c2, c3⟩ := R6.out.fine2 (-(d * 3600000000 + n))
          rw [eW, E1.out]
          have HF := Lib.hid c3
          clear eW c3 c6 f6 e6 g6
          simp [Leaves, settle, results, Tryd.results14, go_sem, c1, c2]
          exact ⟨rfl, HF.out⟩
    · have E1 : Hid (degO (seeF N L) N = .bad k1) := Lib.hid (by rw [E0.out]; exact if_neg hy)
      refine (need_no R3.out.ok k1 176 _ R3.out.sc hy).mono ?_; rintro e w4 ⟨rfl, hr4⟩
      have R4 := Lib.hid (R3.out.step hr4)
      clear hr4 R3 hy E0
      go_wp2
      refine leaves_cons (f := 61) (args := #[.pointer (some ⟨w.heap.size, 0, none⟩), .pointer (some ⟨w.heap.size + 1, 0, none⟩)]) (by simp) (by simp [go_sem]) ?_
      refine (degCl_stop k1 _ _ _ ad _ R4.out.n R4.out.nf R4.out.e R4.out.ef (by simp) (by rw [R4.out.below.cell (p := ⟨0, 0, none⟩) HEB.out]; exact HE.out)).mono ?_
      rintro e u' w'' ⟨rfl, rfl, rfl⟩
      obtain ⟨WF, eW, c1, c2, c3, c4, c5, c6⟩ := R4.out.fault k1 ad
      rw [eW, E1.out]
      have HF : Hid (ReadP w ad (.bad k1) (.returned (.tuple #[.int .i64 0, .iface 125 (.pointer (some ⟨w4.heap.size, 0, none⟩))])) WF) := Lib.hid ⟨w4.heap.size, c5, rfl, c3, c4, c6⟩
      clear eW c3 c4 c5 c6
      simp [Leaves, settle, results, Tryd.results14, go_sem, c1, c2]
      exact HF.out
set_option maxRecDepth 20000 in
set_option maxHeartbeats 8000000 in
theorem readDeg_plus (s : ByteArray) (hs : s.size ≤ 1000000) (ad : Addr) (w : World) (hE : w.cell? ⟨0, 0, none⟩ = some (.iface 258 (.pointer (some ad)))) (h0 : seeF (runes s).length (runeL s) 0 ≠ 45) (h1 : seeF (runes s).length (runeL s) 0 = 43) :
    Calls Tryd.prog 14 #[.string s] w (ReadP w ad (degO (seeF (runes s).length (runeL s)) (runes s).length)) := by
  have hmf : ∀ (fn : Fn) (first cap : Array Value) (w : World), (Instr.makeFunc fn first cap).run Tryd.prog w = .ok (.func fn first cap) w := fun _ _ _ _ => rfl
  obtain ⟨cap, X, hcv, hX⟩ := conv_runes s hs ((w.alloc (.cells #[.int .i64 0] 3)).alloc (.cells #[.nilIface] 23))
  have hl := runes_length s
  have R0 := Lib.hid (RD.start (w := w) (cap := cap) (by omega) hX)
  have HE := Lib.hid hE
  have HEB : Hid (0 < w.heap.size) := Lib.hid (cell_lt hE)
  have E0 : Hid (degO (seeF (runes s).length (runeL s)) (runes s).length = (match numO (seeF (runes s).length (runeL s)) 1 6 1 with | .bad k => .bad k | .ok d k => if seeF (runes s).length (runeL s) k = 176 then (match restO (seeF (runes s).length (runeL s)) (runes s).length 8242 8243 (k + 1) with | .bad k => .bad k | .ok n k => .ok (d * 3600000000 + n) k) else .bad k)) := Lib.hid (by unfold degO; rw [if_pos (Or.inr h1)]; simp only [if_neg h0]; rfl)
  clear hE hX
  generalize (runes s).length = N at *
  generalize runeL s = L at *
  go_enter_defers Tryd.func14, Tryd.ntmps14
  go_wp2_with fail
  refine (take_no R0.out.ok 0 45 _ R0.out.sc h0).mono ?_; rintro e w1 ⟨rfl, hr1⟩
  have Ra := Lib.hid (R0.out.step hr1)
  clear hr1 R0 hcv h0
  go_wp2_with fail
  refine (take_yes Ra.out.ok 0 43 (by omega) _ Ra.out.sc h1).mono ?_; rintro e w1 ⟨rfl, hlt1, hr1⟩
  have R1 := Lib.hid (Ra.out.step hr1)
  clear hr1 Ra h1
  go_wp2_with fail
  have P1 := number_any R1.out.ok 1 6 1 (by omega) (by omega) w1 R1.out.sc
  cases hn : numO (seeF N L) 1 6 1 with
  | bad k1 =>
    rw [hn] at P1 E0
    refine P1.mono ?_; rintro e w2 ⟨rfl, hr2⟩
    have R2 := Lib.hid (R1.out.step hr2)
    clear hr2 P1 R1 hn
    go_wp2
    refine leaves_cons (f := 61) (args := #[.pointer (some ⟨w.heap.size, 0, none⟩), .pointer (some ⟨w.heap.size + 1, 0, none⟩)]) (by simp) (by simp [go_sem]) ?_
    refine (degCl_stop k1 _ _ _ ad _ R2.out.n R2.out.nf R2.out.e R2.out.ef (by simp) (by rw [R2.out.below.cell (p := ⟨0, 0, none⟩) HEB.out]; exact HE.out)).mono ?_
    rintro e u' w'' ⟨rfl, rfl, rfl⟩
    obtain ⟨WF, eW, c1, c2, c3, c4, c5, c6⟩ := R2.out.fault k1 ad
    rw [eW, E0.out]
    have HF : Hid (ReadP w ad (.bad k1) (.returned (.tuple #[.int .i64 0, .iface 125 (.pointer (some ⟨w2.heap.size, 0, none⟩))])) WF) := Lib.hid ⟨w2.heap.size, c5, rfl, c3, c4, c6⟩
    clear eW c3 c4 c5 c6
    simp [Leaves, settle, results, Tryd.results14, go_sem, c1, c2]
    exact HF.out
  | ok d k1 =>
    rw [hn] at P1 E0
    obtain ⟨c, hc, -, hd0, hd1⟩ := numO_inv hn
    have hd2 := pow10_le c (by omega)
    have hd3 : d < 1000000 := by omega
    refine P1.mono ?_; rintro e w2 ⟨rfl, hr2⟩
    have R2 := Lib.hid (R1.out.step hr2)
    clear hr2 P1 R1 hn hd1 hd2
    have c2 := R2.out.n
    have f2 := R2.out.nf
    go_wp2_with fail
    have R3 := Lib.hid (R2.out.put (d * 3600000000))
    clear c2 f2 R2
    generalize w2.setCell ⟨w.heap.size, 0, none⟩ (.int .i64 (d * 3600000000)) = w3 at *
    by_cases hy : seeF N L k1 = 176
    · have E1 : Hid (degO (seeF N L) N = (match restO (seeF N L) N 8242 8243 (k1 + 1) with | .bad k => .bad k | .ok n k => .ok (d * 3600000000 + n) k)) := Lib.hid (by rw [E0.out]; exact if_pos hy)
      refine (need_yes R3.out.ok k1 176 (by omega) _ R3.out.sc hy).mono ?_; rintro e w4 ⟨rfl, hlt4, hr4⟩
      have R4 := Lib.hid (R3.out.step hr4)
      clear hr4 R3 hy E0
      go_wp2
      have c4 := R4.out.n
      have HS := Lib.hid (fun w h => rest_any (cap := cap) R4.out.drew.ok 8242 8243 (by omega) (by omega) (k1 + 1) w h)
      cases hr : restO (seeF N L) N 8242 8243 (k1 + 1) with
      | bad k5 =>
        rw [hr] at HS E1
        clear hr
        refine wp_region_any (by kernel_rfl) ?_
        change wpAny _ _ _ _ _ _ _ (World.drew _)
        refine wpAny_ready (rs := [0, 1]) (by kernel_rfl) (by simp) ?_
        refine AllReady.cons rfl (fun K hK => ?_) (AllReady.cons rfl (fun K hK => ?_) AllReady.nil)
        · go_simp
          refine hK _ _ ?_; clear hK K
          refine wpAny_ready (rs := [1]) (by kernel_rfl) (by simp) ?_
          refine AllReady.cons rfl (fun K hK => ?_) AllReady.nil
          go_simp
          refine hK _ _ ?_; clear hK K
          refine wpAny_ready (rs := [2]) (by kernel_rfl) (by simp) ?_
          refine AllReady.cons rfl (fun K hK => ?_) AllReady.nil
          go_simp
          refine (HS.out _ R4.out.drew.sc).mono ?_; rintro e w5 ⟨rfl, hr5⟩
          have R5 := Lib.hid (R4.out.drew.step hr5)
          clear hr5 HS hK
          go_wp2
          refine leaves_cons (f := 61) (args := #[.pointer (some ⟨w.heap.size, 0, none⟩), .pointer (some ⟨w.heap.size + 1, 0, none⟩)]) (by simp) (by simp [go_sem]) ?_
          refine (degCl_stop k5 _ _ _ ad _ R5.out.n R5.out.nf R5.out.e R5.out.ef (by simp) (by rw [R5.out.below.cell (p := ⟨0, 0, none⟩) HEB.out]; exact HE.out)).mono ?_
          rintro e u' w'' ⟨rfl, rfl, rfl⟩
          obtain ⟨WF, eW, c1, c2, c3, c4, c5, c6⟩ := R5.out.fault k5 ad
          rw [eW, E1.out]
          have HF : Hid (ReadP w ad (.bad k5) (.returned (.tuple #[.int .i64 0, .iface 125 (.pointer (some ⟨w5.heap.size, 0, none⟩))])) WF) := Lib.hid ⟨w5.heap.size, c5, rfl, c3, c4, c6⟩
          clear eW c3 c4 c5 c6
          simp [Leaves, settle, results, Tryd.results14, go_sem, c1, c2]
          exact HF.out
        · go_simp
          refine hK _ _ ?_; clear hK K
          refine wpAny_ready (rs := [0, 2]) (by kernel_rfl) (by simp) ?_
          refine AllReady.cons rfl (fun K hK => ?_) (AllReady.cons rfl (fun K hK => ?_) AllReady.nil)
          · go_simp
            refine hK _ _ ?_; clear hK K
            refine wpAny_ready (rs := [2]) (by kernel_rfl) (by simp) ?_
            refine AllReady.cons rfl (fun K hK => ?_) AllReady.nil
            go_simp
            refine (HS.out _ R4.out.drew.sc).mono ?_; rintro e w5 ⟨rfl, hr5⟩
            have R5 := Lib.hid (R4.out.drew.step hr5)
            clear hr5 HS hK
            go_wp2
            refine leaves_cons (f := 61) (args := #[.pointer (some ⟨w.heap.size, 0, none⟩), .pointer (some ⟨w.heap.size + 1, 0, none⟩)]) (by simp) (by simp [go_sem]) ?_
            refine (degCl_stop k5 _ _ _ ad _ R5.out.n R5.out.nf R5.out.e R5.out.ef (by simp) (by rw [R5.out.below.cell (p := ⟨0, 0, none⟩) HEB.out]; exact HE.out)).mono ?_
            rintro e u' w'' ⟨rfl, rfl, rfl⟩
            obtain ⟨WF, eW, c1, c2, c3, c4, c5, c6⟩ := R5.out.fault k5 ad
            rw [eW, E1.out]
            have HF : Hid (ReadP w ad (.bad k5) (.returned (.tuple #[.int .i64 0, .iface 125 (.pointer (some ⟨w5.heap.size, 0, none⟩))])) WF) := Lib.hid ⟨w5.heap.size, c5, rfl, c3, c4, c6⟩
            clear eW c3 c4 c5 c6
            simp [Leaves, settle, results, Tryd.results14, go_sem, c1, c2]
            exact HF.out
          · go_simp
            refine (HS.out _ R4.out.drew.sc).mono ?_; rintro e w5 ⟨rfl, hr5⟩
            have R5 := Lib.hid (R4.out.drew.step hr5)
            clear hr5 HS hK
            go_wp2
            refine leaves_cons (f := 61) (args := #[.pointer (some ⟨w.heap.size, 0, none⟩), .pointer (some ⟨w.heap.size + 1, 0, none⟩)]) (by simp) (by simp [go_sem]) ?_
            refine (degCl_stop k5 _ _ _ ad _ R5.out.n R5.out.nf R5.out.e R5.out.ef (by simp) (by rw [R5.out.below.cell (p := ⟨0, 0, none⟩) HEB.out]; exact HE.out)).mono ?_
            rintro e u' w'' ⟨rfl, rfl, rfl⟩
            obtain ⟨WF, eW, c1, c2, c3, c4, c5, c6⟩ := R5.out.fault k5 ad
            rw [eW, E1.out]
            have HF : Hid (ReadP w ad (.bad k5) (.returned (.tuple #[.int .i64 0, .iface 125 (.pointer (some ⟨w5.heap.size, 0, none⟩))])) WF) := Lib.hid ⟨w5.heap.size, c5, rfl, c3, c4, c6⟩
            clear eW c3 c4 c5 c6
            simp [Leaves, settle, results, Tryd.results14, go_sem, c1, c2]
            exact HF.out
      | ok n k5 =>
        rw [hr] at HS E1
        have hnb := restO_bd hr
        obtain ⟨hn0, hn1⟩ := hnb
        clear hr
        have q1 : IntKind.i64.wrap (d * 3600000000 + n) = d * 3600000000 + n := IntWalk.i64_in _ (by omega)
        refine wp_region_noPanic ?_
        go_region_with (refine (HS.out _ R4.out.drew.sc).mono ?_; rintro e w5 ⟨rfl, hr5⟩; have R5 := Lib.hid (R4.out.drew.step hr5); have c5 := R5.out.n; have f5 := R5.out.nf; clear hr5)
        all_goals
          refine NoPanic.normal ?_
          clear q1 c4 c5 f5
          have R6 := Lib.hid (R5.out.put (d * 3600000000 + n))
          generalize w5.setCell ⟨w.heap.size, 0, none⟩ (.int .i64 (d * 3600000000 + n)) = w6 at *
          have c6 := R6.out.n
          have f6 := R6.out.nf
          have e6 := R6.out.e
          have g6 := R6.out.ef
          go_wp2
          refine leaves_cons (f := 61) (args := #[.pointer (some ⟨w.heap.size, 0, none⟩), .pointer (some ⟨w.heap.size + 1, 0, none⟩)]) (by simp) (by simp [go_sem]) ?_
          refine (degCl_idle ⟨w.heap.size, 0, none⟩ ⟨w.heap.size + 1, 0, none⟩ _).mono ?_
          rintro e u' w'' ⟨rfl, rfl, rfl⟩
          obtain ⟨WF, eW, c1, c2, c3⟩ := R6.out.fine (d * 3600000000 + n)
          rw [eW, E1.out]
          have HF := Lib.hid c3
          clear eW c3 c6 f6 e6 g6
          simp [Leaves, settle, results, Tryd.results14, go_sem, c1, c2]
          exact ⟨rfl, HF.out⟩
    · have E1 : Hid (degO (seeF N L) N = .bad k1) := Lib.hid (by rw [E0.out]; exact if_neg hy)
      refine (need_no R3.out.ok k1 176 _ R3.out.sc hy).mono ?_; rintro e w4 ⟨rfl, hr4⟩
      have R4 := Lib.hid (R3.out.step hr4)
      clear hr4 R3 hy E0
      go_wp2
      refine leaves_cons (f := 61) (args := #[.pointer (some ⟨w.heap.size, 0, none⟩), .pointer (some ⟨w.heap.size + 1, 0, none⟩)]) (by simp) (by simp [go_sem]) ?_
      refine (degCl_stop k1 _ _ _ ad _ R4.out.n R4.out.nf R4.out.e R4.out.ef (by simp) (by rw [R4.out.below.cell (p := ⟨0, 0, none⟩) HEB.out]; exact HE.out)).mono ?_
      rintro e u' w'' ⟨rfl, rfl, rfl⟩
      obtain ⟨WF, eW, c1, c2, c3, c4, c5, c6⟩ := R4.out.fault k1 ad
      rw [eW, E1.out]
      have HF : Hid (ReadP w ad (.bad k1) (.returned (.tuple #[.int .i64 0, .iface 125 (.pointer (some ⟨w4.heap.size, 0, none⟩))])) WF) := Lib.hid ⟨w4.heap.size, c5, rfl, c3, c4, c6⟩
      clear eW c3 c4 c5 c6
      simp [Leaves, settle, results, Tryd.results14, go_sem, c1, c2]
      exact HF.out
set_option maxRecDepth 20000 in
set_option maxHeartbeats 8000000 in
theorem readDeg_none (s : ByteArray) (hs : s.size ≤ 1000000) (ad : Addr) (w : World) (hE : w.cell? ⟨0, 0, none⟩ = some (.iface 258 (.pointer (some ad)))) (h0 : seeF (runes s).length (runeL s) 0 ≠ 45) (h1 : seeF (runes s).length (runeL s) 0 ≠ 43) :
    Calls Tryd.prog 14 #[.string s] w (ReadP w ad (degO (seeF (runes s).length (runeL s)) (runes s).length)) := by
  have hmf : ∀ (fn : Fn) (first cap : Array Value) (w : World), (Instr.makeFunc fn first cap).run Tryd.prog w = .ok (.func fn first cap) w := fun _ _ _ _ => rfl
  obtain ⟨cap, X, hcv, hX⟩ := conv_runes s hs ((w.alloc (.cells #[.int .i64 0] 3)).alloc (.cells #[.nilIface] 23))
  have hl := runes_length s
  have R0 := Lib.hid (RD.start (w := w) (cap := cap) (by omega) hX)
  have HE := Lib.hid hE
  have HEB : Hid (0 < w.heap.size) := Lib.hid (cell_lt hE)
  have E0 : Hid (degO (seeF (runes s).length (runeL s)) (runes s).length = (match numO (seeF (runes s).length (runeL s)) 1 6 0 with | .bad k => .bad k | .ok d k => if seeF (runes s).length (runeL s) k = 176 then (match restO (seeF (runes s).length (runeL s)) (runes s).length 8242 8243 (k + 1) with | .bad k => .bad k | .ok n k => .ok (d * 3600000000 + n) k) else .bad k)) := Lib.hid (by unfold degO; rw [if_neg (fun h => h.elim h0 h1)]; simp only [if_neg h0]; rfl)
  clear hE hX
  generalize (runes s).length = N at *
  generalize runeL s = L at *
  go_enter_defers Tryd.func14, Tryd.ntmps14
  go_wp2_with fail
  refine (take_no R0.out.ok 0 45 _ R0.out.sc h0).mono ?_; rintro e w1 ⟨rfl, hr1⟩
  have Ra := Lib.hid (R0.out.step hr1)
  clear hr1 R0 hcv h0
  go_wp2_with fail
  refine (take_no Ra.out.ok 0 43 _ Ra.out.sc h1).mono ?_; rintro e w1 ⟨rfl, hr1⟩
  have R1 := Lib.hid (Ra.out.step hr1)
  clear hr1 Ra h1
  go_wp2_with fail
  have P1 := number_any R1.out.ok 1 6 0 (by omega) (by omega) w1 R1.out.sc
  cases hn : numO (seeF N L) 1 6 0 with
  | bad k1 =>
    rw [hn] at P1 E0
    refine P1.mono ?_; rintro e w2 ⟨rfl, hr2⟩
    have R2 := Lib.hid (R1.out.step hr2)
    clear hr2 P1 R1 hn
    go_wp2
    refine leaves_cons (f := 61) (args := #[.pointer (some ⟨w.heap.size, 0, none⟩), .pointer (some ⟨w.heap.size + 1, 0, none⟩)]) (by simp) (by simp [go_sem]) ?_
    refine (degCl_stop k1 _ _ _ ad _ R2.out.n R2.out.nf R2.out.e R2.out.ef (by simp) (by rw [R2.out.below.cell (p := ⟨0, 0, none⟩) HEB.out]; exact HE.out)).mono ?_
    rintro e u' w'' ⟨rfl, rfl, rfl⟩
    obtain ⟨WF, eW, c1, c2, c3, c4, c5, c6⟩ := R2.out.fault k1 ad
    rw [eW, E0.out]
    have HF : Hid (ReadP w ad (.bad k1) (.returned (.tuple #[.int .i64 0, .iface 125 (.pointer (some ⟨w2.heap.size, 0, none⟩))])) WF) := Lib.hid ⟨w2.heap.size, c5, rfl, c3, c4, c6⟩
    clear eW c3 c4 c5 c6
    simp [Leaves, settle, results, Tryd.results14, go_sem, c1, c2]
    exact HF.out
  | ok d k1 =>
    rw [hn] at P1 E0
    obtain ⟨c, hc, -, hd0, hd1⟩ := numO_inv hn
    have hd2 := pow10_le c (by omega)
    have hd3 : d < 1000000 := by omega
    refine P1.mono ?_; rintro e w2 ⟨rfl, hr2⟩
    have R2 := Lib.hid (R1.out.step hr2)
    clear hr2 P1 R1 hn hd1 hd2
    have c2 := R2.out.n
    have f2 := R2.out.nf
    go_wp2_with fail
    have R3 := Lib.hid (R2.out.put (d * 3600000000))
    clear c2 f2 R2
    generalize w2.setCell ⟨w.heap.size, 0, none⟩ (.int .i64 (d * 3600000000)) = w3 at *
    by_cases hy : seeF N L k1 = 176
    · have E1 : Hid (degO (seeF N L) N = (match restO (seeF N L) N 8242 8243 (k1 + 1) with | .bad k => .bad k | .ok n k => .ok (d * 3600000000 + n) k)) := Lib.hid (by rw [E0.out]; exact if_pos hy)
      refine (need_yes R3.out.ok k1 176 (by omega) _ R3.out.sc hy).mono ?_; rintro e w4 ⟨rfl, hlt4, hr4⟩
      have R4 := Lib.hid (R3.out.step hr4)
      clear hr4 R3 hy E0
      go_wp2
      have c4 := R4.out.n
      have HS := Lib.hid (fun w h => rest_any (cap := cap) R4.out.drew.ok 8242 8243 (by omega) (by omega) (k1 + 1) w h)
      cases hr : restO (seeF N L) N 8242 8243 (k1 + 1) with
      | bad k5 =>
        rw [hr] at HS E1
        clear hr
        refine wp_region_any (by kernel_rfl) ?_
        change wpAny _ _ _ _ _ _ _ (World.drew _)
        refine wpAny_ready (rs := [0, 1]) (by kernel_rfl) (by simp) ?_
        refine AllReady.cons rfl (fun K hK => ?_) (AllReady.cons rfl (fun K hK => ?_) AllReady.nil)
        · go_simp
          refine hK _ _ ?_; clear hK K
          refine wpAny_ready (rs := [1]) (by kernel_rfl) (by simp) ?_
          refine AllReady.cons rfl (fun K hK => ?_) AllReady.nil
          go_simp
          refine hK _ _ ?_; clear hK K
          refine wpAny_ready (rs := [2]) (by kernel_rfl) (by simp) ?_
          refine AllReady.cons rfl (fun K hK => ?_) AllReady.nil
          go_simp
          refine (HS.out _ R4.out.drew.sc).mono ?_; rintro e w5 ⟨rfl, hr5⟩
          have R5 := Lib.hid (R4.out.drew.step hr5)
          clear hr5 HS hK
          go_wp2
          refine leaves_cons (f := 61) (args := #[.pointer (some ⟨w.heap.size, 0, none⟩), .pointer (some ⟨w.heap.size + 1, 0, none⟩)]) (by simp) (by simp [go_sem]) ?_
          refine (degCl_stop k5 _ _ _ ad _ R5.out.n R5.out.nf R5.out.e R5.out.ef (by simp) (by rw [R5.out.below.cell (p := ⟨0, 0, none⟩) HEB.out]; exact HE.out)).mono ?_
          rintro e u' w'' ⟨rfl, rfl, rfl⟩
          obtain ⟨WF, eW, c1, c2, c3, c4, c5, c6⟩ := R5.out.fault k5 ad
          rw [eW, E1.out]
          have HF : Hid (ReadP w ad (.bad k5) (.returned (.tuple #[.int .i64 0, .iface 125 (.pointer (some ⟨w5.heap.size, 0, none⟩))])) WF) := Lib.hid ⟨w5.heap.size, c5, rfl, c3, c4, c6⟩
          clear eW c3 c4 c5 c6
          simp [Leaves, settle, results, Tryd.results14, go_sem, c1, c2]
          exact HF.out
        · go_simp
          refine hK _ _ ?_; clear hK K
          refine wpAny_ready (rs := [0, 2]) (by kernel_rfl) (by simp) ?_
          refine AllReady.cons rfl (fun K hK => ?_) (AllReady.cons rfl (fun K hK => ?_) AllReady.nil)
          · go_simp
            refine hK _ _ ?_; clear hK K
            refine wpAny_ready (rs := [2]) (by kernel_rfl) (by simp) ?_
            refine AllReady.cons rfl (fun K hK => ?_) AllReady.nil
            go_simp
            refine (HS.out _ R4.out.drew.sc).mono ?_; rintro e w5 ⟨rfl, hr5⟩
            have R5 := Lib.hid (R4.out.drew.step hr5)
            clear hr5 HS hK
            go_wp2
            refine leaves_cons (f := 61) (args := #[.pointer (some ⟨w.heap.size, 0, none⟩), .pointer (some ⟨w.heap.size + 1, 0, none⟩)]) (by simp) (by simp [go_sem]) ?_
            refine (degCl_stop k5 _ _ _ ad _ R5.out.n R5.out.nf R5.out.e R5.out.ef (by simp) (by rw [R5.out.below.cell (p := ⟨0, 0, none⟩) HEB.out]; exact HE.out)).mono ?_
            rintro e u' w'' ⟨rfl, rfl, rfl⟩
            obtain ⟨WF, eW, c1, c2, c3, c4, c5, c6⟩ := R5.out.fault k5 ad
            rw [eW, E1.out]
            have HF : Hid (ReadP w ad (.bad k5) (.returned (.tuple #[.int .i64 0, .iface 125 (.pointer (some ⟨w5.heap.size, 0, none⟩))])) WF) := Lib.hid ⟨w5.heap.size, c5, rfl, c3, c4, c6⟩
            clear eW c3 c4 c5 c6
            simp [Leaves, settle, results, Tryd.results14, go_sem, c1, c2]
            exact HF.out
          · go_simp
            refine (HS.out _ R4.out.drew.sc).mono ?_; rintro e w5 ⟨rfl, hr5⟩
            have R5 := Lib.hid (R4.out.drew.step hr5)
            clear hr5 HS hK
            go_wp2
            refine leaves_cons (f := 61) (args := #[.pointer (some ⟨w.heap.size, 0, none⟩), .pointer (some ⟨w.heap.size + 1, 0, none⟩)]) (by simp) (by simp [go_sem]) ?_
            refine (degCl_stop k5 _ _ _ ad _ R5.out.n R5.out.nf R5.out.e R5.out.ef (by simp) (by rw [R5.out.below.cell (p := ⟨0, 0, none⟩) HEB.out]; exact HE.out)).mono ?_
            rintro e u' w'' ⟨rfl, rfl, rfl⟩
            obtain ⟨WF, eW, c1, c2, c3, c4, c5, c6⟩ := R5.out.fault k5 ad
            rw [eW, E1.out]
            have HF : Hid (ReadP w ad (.bad k5) (.returned (.tuple #[.int .i64 0, .iface 125 (.pointer (some ⟨w5.heap.size, 0, none⟩))])) WF) := Lib.hid ⟨w5.heap.size, c5, rfl, c3, c4, c6⟩
            clear eW c3 c4 c5 c6
            simp [Leaves, settle, results, Tryd.results14, go_sem, c1, c2]
            exact HF.out
      | ok n k5 =>
        rw [hr] at HS E1
        have hnb := restO_bd hr
        obtain ⟨hn0, hn1⟩ := hnb
        clear hr
        have q1 : IntKind.i64.wrap (d * 3600000000 + n) = d * 3600000000 + n := IntWalk.i64_in _ (by omega)
        refine wp_region_noPanic ?_
        go_region_with (refine (HS.out _ R4.out.drew.sc).mono ?_; rintro e w5 ⟨rfl, hr5⟩; have R5 := Lib.hid (R4.out.drew.step hr5); have c5 := R5.out.n; have f5 := R5.out.nf; clear hr5)
        all_goals
          refine NoPanic.normal ?_
          clear q1 c4 c5 f5
          have R6 := Lib.hid (R5.out.put (d * 3600000000 + n))
          generalize w5.setCell ⟨w.heap.size, 0, none⟩ (.int .i64 (d * 3600000000 + n)) = w6 at *
          have c6 := R6.out.n
          have f6 := R6.out.nf
          have e6 := R6.out.e
          have g6 := R6.out.ef
          go_wp2
          refine leaves_cons (f := 61) (args := #[.pointer (some ⟨w.heap.size, 0, none⟩), .pointer (some ⟨w.heap.size + 1, 0, none⟩)]) (by simp) (by simp [go_sem]) ?_
          refine (degCl_idle ⟨w.heap.size, 0, none⟩ ⟨w.heap.size + 1, 0, none⟩ _).mono ?_
          rintro e u' w'' ⟨rfl, rfl, rfl⟩
          obtain ⟨WF, eW, c1, c2, c3⟩ := R6.out.fine (d * 3600000000 + n)
          rw [eW, E1.out]
          have HF := Lib.hid c3
          clear eW c3 c6 f6 e6 g6
          simp [Leaves, settle, results, Tryd.results14, go_sem, c1, c2]
          exact ⟨rfl, HF.out⟩
    · have E1 : Hid (degO (seeF N L) N = .bad k1) := Lib.hid (by rw [E0.out]; exact if_neg hy)
      refine (need_no R3.out.ok k1 176 _ R3.out.sc hy).mono ?_; rintro e w4 ⟨rfl, hr4⟩
      have R4 := Lib.hid (R3.out.step hr4)
      clear hr4 R3 hy E0
      go_wp2
      refine leaves_cons (f := 61) (args := #[.pointer (some ⟨w.heap.size, 0, none⟩), .pointer (some ⟨w.heap.size + 1, 0, none⟩)]) (by simp) (by simp [go_sem]) ?_
      refine (degCl_stop k1 _ _ _ ad _ R4.out.n R4.out.nf R4.out.e R4.out.ef (by simp) (by rw [R4.out.below.cell (p := ⟨0, 0, none⟩) HEB.out]; exact HE.out)).mono ?_
      rintro e u' w'' ⟨rfl, rfl, rfl⟩
      obtain ⟨WF, eW, c1, c2, c3, c4, c5, c6⟩ := R4.out.fault k1 ad
      rw [eW, E1.out]
      have HF : Hid (ReadP w ad (.bad k1) (.returned (.tuple #[.int .i64 0, .iface 125 (.pointer (some ⟨w4.heap.size, 0, none⟩))])) WF) := Lib.hid ⟨w4.heap.size, c5, rfl, c3, c4, c6⟩
      clear eW c3 c4 c5 c6
      simp [Leaves, settle, results, Tryd.results14, go_sem, c1, c2]
      exact HF.out
theorem readDeg_any (s : ByteArray) (hs : s.size ≤ 1000000) (ad : Addr) (w : World) (hE : w.cell? ⟨0, 0, none⟩ = some (.iface 258 (.pointer (some ad)))) :
    Calls Tryd.prog 14 #[.string s] w (ReadP w ad (degO (seeF (runes s).length (runeL s)) (runes s).length)) := by
  by_cases h0 : seeF (runes s).length (runeL s) 0 = 45
  · exact readDeg_neg s hs ad w hE h0
  · by_cases h1 : seeF (runes s).length (runeL s) 0 = 43
    · exact readDeg_plus s hs ad w hE h0 h1
    · exact readDeg_none s hs ad w hE h0 h1
end Go.Proofs.YtpkifhmnibepiaaDoor
